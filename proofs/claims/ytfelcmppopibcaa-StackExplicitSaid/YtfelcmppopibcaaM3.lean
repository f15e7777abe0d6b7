/- The reference's Match walked. -/
import Derived.Test.YtfelcmppopibcaaM1
import Derived.Test.YtfelcmppopibcaaS4
namespace Go.Proofs.Ytfelcmppopibcaa
open Go.RowKit

theorem fillm_at {outs : List Int} {k m : Nat} (h : outs.length = k) (x : Int) : (outs ++ List.replicate (m + 1) (-1)).set k x = (outs ++ [x]) ++ List.replicate m (-1) := by
  subst h
  simp [List.replicate_succ]
theorem fillm_same {outs : List Int} {m : Nat} : outs ++ List.replicate (m + 1) (-1) = (outs ++ [-1]) ++ List.replicate m (-1) := by
  simp [List.replicate_succ]

set_option maxRecDepth 100000 in
set_option maxHeartbeats 1000000 in
theorem rMatch_any {w : World} {B : Nat} {A : Option Addr} {c : Nat} {l : List Int} (h : RdInts w B .u8 A l) (hB : B ≤ w.heap.size) (hl : l.length ≤ 1048576) :
    Calls Try.prog 31 #[.slice A l.length c] w fun r w' => ∃ v, r = .returned v ∧ Ints w' w.heap.size 3 .i64 v (matchL l) ∧ Below w.heap.size w w' := by
  go_enter Try.func31, Try.ntmps31
  go_wp2
  go_loopg [3, 4] l.length (fun gk ov iv wr => ∃ k : Nat, k + gk = l.length ∧ iv = .int .i64 k ∧ Ints wr w.heap.size 3 .i64 ov (List.replicate k (-1)) ∧ Below w.heap.size w wr)
  case atStart => exact ⟨0, by simp, rfl, Ints.nil _ _ _ _, Below.refl _ _⟩
  case round =>
    obtain ⟨k, hk, rfl, I0, hb⟩ := hrel
    by_cases hlt : k < l.length
    · have HK := Lib.hid hk
      clear hk
      obtain ⟨oA, ocap, rfl, _, _, _⟩ := I0.val
      have hlk : (List.replicate k (-1 : Int)).length = k := by simp
      rw [hlk] at I0 ⊢
      clear hlk
      have I1 := I0
      go_wp2_with (at_builtin; go_must (refine wpList_appI Try.ei27 rfl rfl rfl (I1.alloc _) rfl (Blk.at_ (by simp)) ?_ ?_ ?_ ?_))
      · simp [maxLen]; omega
      · simp; omega
      · have := hb.size; simp; omega
      intro g cap w3 I3 hg3 hgg
      have b3 := (hb.alloc hb.size (.cells #[.int .i64 (-1)] 3)).grown hg3 (by have := hb.size; simp; omega) (fun j hj => (I1.lt j hj).1)
      rw [← List.replicate_succ'] at I3
      go_wp2
      go_roundg (l.length - (k + 1))
      case rel => exact ⟨k + 1, by omega, by go_num, I3, b3⟩
      case measure => have := HK.out; omega
    · have hkn : k = l.length := by omega
      subst hkn
      clear hk
      by_cases hn : l.length = 0
      · have hl0 : l = [] := List.eq_nil_of_length_eq_zero hn
        subst hl0
        obtain ⟨oA, ocap, rfl, _, _, _⟩ := I0.val
        simp only [List.length_nil] at *
        go_wp2
        refine wp_loop_rounds 1 ?_
        rw [rounds_succ]
        go_wp2
        go_ret
        exact ⟨_, rfl, I0, hb⟩
      · obtain ⟨og, ocap, rfl⟩ := I0.form (by simp; omega)
        have hl0 : (List.replicate l.length (-1 : Int)).length = l.length := by simp
        rw [hl0] at I0 ⊢
        clear hl0
        obtain ⟨-, _, _, hog, _⟩ := I0.at_
        go_wp2
        go_loopg [5, 6, 7] l.length (fun gk pv iv _ wr => ∃ k : Nat, k + gk = l.length ∧ iv = .int .i64 k ∧ Ints wr w.heap.size 3 .i64 (.slice (some ⟨og, 0, none⟩) l.length ocap) ((mRun l.length (l.take k)).1 ++ List.replicate (l.length - k) (-1)) ∧
          Ints wr w.heap.size 3 .i64 pv (pileInts (mRun l.length (l.take k)).2) ∧ pv.ownBlock ≠ some og ∧ Below w.heap.size w wr)
        case atStart => exact ⟨0, by simp, rfl, by simpa [mRun] using I0, Ints.nil _ _ _ _, by simp [Value.ownBlock], hb⟩
        case round =>
          clear hb hlt I0
          obtain ⟨k, hk, rfl, I0, J0, hne, hb⟩ := hrel
          have HK := Lib.hid hk
          clear hk
          by_cases hlt : k < l.length
          · have hr := (h.below hb (.inl hB))
            obtain ⟨b, off, rfl, hbB, hbs, hc⟩ := hr.at_ hlt
            obtain ⟨-, _, _, _, hos, hofr, hoc⟩ := I0.at_
            have hinv := mInv_run l.length (l.take k) (by simp; omega)
            have hlen := hinv.len
            have hkl : (l.take k).length = k := by simp; omega
            rw [hkl] at hlen
            have hnx := mRun_next l.length hlt
            have hoc0 := hoc k (by simp [hlen]; omega)
            obtain ⟨m, hm⟩ : ∃ m, l.length - k = m + 1 := ⟨l.length - k - 1, by omega⟩
            have hm1 : l.length - (k + 1) = m := by omega
            generalize hc0 : l.getD k 0 = c0 at hc hnx
            generalize hst : mRun l.length (l.take k) = st at *
            obtain ⟨outs, pile⟩ := st
            simp only at hlen I0 J0 hinv hoc0
            rw [hm] at I0
            have I1 := I0
            rw [fillm_same] at I1
            have hplt : ∀ x ∈ pile, x < k := fun x hx => by have := (hinv.pile_lt x hx).1; omega
            have hpl := pile_len hinv.sorted hplt
            have HN := Lib.hid hnx
            have HM1 := Lib.hid hm1
            clear hnx hm hm1 hc0 hst hoc I0 hkl
            by_cases hbg : begins c0 = true
            · have hx : mStep l.length (outs, pile) c0 = (outs ++ [(l.length : Int)], outs.length :: pile) := by simp [mStep, hbg]
              have HX := Lib.hid hx
              clear hx
              have hJ0 := J0
              obtain ⟨pA, pcap, rfl, _, _, _⟩ := J0.val
              have hl1 : (pileInts pile).length = pile.length := pileInts_length pile
              rw [hl1] at hJ0 hne ⊢
              clear J0
              have hpl2 : pile.length ≤ 1048576 := by omega
              rcases begins_cases hbg with rfl | rfl | rfl
              all_goals
                go_wp2_with (at_builtin; go_must (refine wpList_appI Try.ei27 rfl rfl rfl (hJ0.alloc _) rfl (Blk.at_ (by simp)) ?_ ?_ ?_ ?_))
                · unfold maxLen; omega
                · omega
                · have := hb.size; simp; omega
                intro g cap w3 J3 hg3 hgg
                have I2 := (I1.alloc (.cells #[.int .i64 (k : Int)] 3)).kept hg3 (.inr (fun e => hne (by simpa [Value.ownBlock] using e.symm)))
                have b3 := (hb.alloc hb.size (.cells #[.int .i64 (k : Int)] 3)).grown hg3 (by have := hb.size; simp; omega) (fun j hj => (hJ0.lt j hj).1)
                have I3 := I2.set k (l.length : Int)
                rw [fill_new hlen] at I3
                have hgo : g ≠ og := by
                  rcases hgg with e | e
                  · intro e2; subst e2; exact hne e
                  · omega
                have F3 := (Frm.refl (fun j => j = og) w3).set (j := k) rfl (.int .i64 (l.length : Int))
                have J4 := J3.frm F3 (fun j hj e => by simp [Value.ownBlock] at hj; omega)
                have b4 := b3.trans (F3.below b3.size (fun j hj e => by omega))
                obtain ⟨-, _, _, _, _, ifr, kc⟩ := I2.at_
                have kck := kc k (by simp [hlen])
                clear kc I2 J3 hinv
                go_wp2
                go_roundg m
                case rel =>
                  refine ⟨k + 1, by have := HK.out; have := HM1.out; omega, by go_num, ?_, ?_, by simp [Value.ownBlock]; omega, b4⟩
                  · rw [HN.out, HX.out, HM1.out]; exact I3
                  · rw [HN.out, HX.out, pileInts_cons, hlen]; exact J4
                case measure => have := HK.out; have := HM1.out; omega
            · have hbg' : begins c0 = false := by simpa using hbg
              by_cases h23 : c0 = 23
              · subst h23
                cases pile with
                | nil =>
                  have hx : mStep l.length (outs, []) 23 = (outs ++ [-1], []) := by simp [mStep, begins]
                  have HX := Lib.hid hx
                  clear hx
                  have hJ0 := J0
                  obtain ⟨pA, pcap, rfl, _, _, _⟩ := J0.val
                  have hp0 : (pileInts ([] : List Nat)).length = 0 := rfl
                  rw [hp0] at hJ0 hne ⊢
                  clear hp0 J0
                  go_wp2
                  go_roundg m
                  case rel =>
                    refine ⟨k + 1, by have := HK.out; have := HM1.out; omega, by go_num, ?_, ?_, hne, hb⟩
                    · rw [HN.out, HX.out, HM1.out]; exact I1
                    · rw [HN.out, HX.out]; exact hJ0
                  case measure => have := HK.out; have := HM1.out; omega
                | cons p rest =>
                  have hx : mStep l.length (outs, p :: rest) 23 = (outs.set p (k : Int) ++ [(p : Int)], rest) := by simp [mStep, begins, hlen]
                  have HX := Lib.hid hx
                  clear hx
                  have hpk : p < k := hplt p (by simp)
                  obtain ⟨pg, pcap, rfl⟩ := J0.form (by simp [pileInts])
                  have hplen : (pileInts (p :: rest)).length = rest.length + 1 := by simp [pileInts]
                  rw [hplen] at J0 hne ⊢
                  obtain ⟨-, jl, jm, _, js, jf, jc⟩ := J0.at_
                  have jc := jc rest.length (by simp [pileInts])
                  have hpv : (pileInts (p :: rest)).getD rest.length 0 = (p : Int) := by rw [pileInts_cons]; simp [pileInts, List.getD]
                  rw [hpv] at jc
                  rw [hplen] at jl
                  obtain ⟨-, _, _, _, _, _, kc⟩ := I1.at_
                  have kcp := kc p (by simp [hlen]; omega)
                  have I2 := I1.set p (k : Int)
                  rw [fill_old hlen hpk] at I2
                  have hlen' : (outs.set p (k : Int)).length = k := by simp [hlen]
                  have I3 := I2.set k (p : Int)
                  rw [fill_new hlen'] at I3
                  obtain ⟨-, _, _, _, _, _, kc2⟩ := I2.at_
                  have kck := kc2 k (by simp [hlen])
                  have F2 := ((Frm.refl (fun j => j = og) wr).set (j := p) rfl (.int .i64 (k : Int))).set (j := k) rfl (.int .i64 (p : Int))
                  have J3 := J0.frm F2 (fun j hj e => hne (by rw [hj, e]))
                  have b3 := hb.trans (F2.below hb.size (fun j hj e => by omega))
                  have J4 := J3.cut rest.length (by simp [pileInts])
                  have htk : (pileInts (p :: rest)).take rest.length = pileInts rest := by rw [pileInts_cons]; simp [pileInts]
                  rw [htk] at J4
                  clear kc kc2 hplen hpv htk J3 I2 hinv hplt
                  have hrl : rest.length ≤ 1048576 := by simp only [List.length_cons] at hpl; omega
                  go_wp2
                  go_roundg m
                  case rel =>
                    refine ⟨k + 1, by have := HK.out; have := HM1.out; omega, by go_num, ?_, ?_, hne, b3⟩
                    · rw [HN.out, HX.out, HM1.out]; exact I3
                    · rw [HN.out, HX.out]; exact J4
                  case measure => have := HK.out; have := HM1.out; omega
              · have hx23 : (c0 == 23) = false := beq_eq_false_iff_ne.2 h23
                have hbb : c0 ≠ 20 ∧ c0 ≠ 21 ∧ c0 ≠ 22 := by refine ⟨?_, ?_, ?_⟩ <;> (rintro rfl; simp [begins] at hbg')
                have hx20 : (c0 == 20) = false := beq_eq_false_iff_ne.2 hbb.1
                have hx21 : (c0 == 21) = false := beq_eq_false_iff_ne.2 hbb.2.1
                have hx22 : (c0 == 22) = false := beq_eq_false_iff_ne.2 hbb.2.2
                clear hbb
                by_cases h11 : c0 = 11
                · subst h11
                  have hx : mStep l.length (outs, pile) 11 = (outs ++ [-1], []) := by simp [mStep, begins]
                  have HX := Lib.hid hx
                  clear hx
                  go_wp2
                  go_roundg m
                  case rel =>
                    refine ⟨k + 1, by have := HK.out; have := HM1.out; omega, by go_num, ?_, ?_, by simp [Value.ownBlock], hb⟩
                    · rw [HN.out, HX.out, HM1.out]; exact I1
                    · rw [HN.out, HX.out]; exact Ints.nil _ _ _ _
                  case measure => have := HK.out; have := HM1.out; omega
                · have hx11 : (c0 == 11) = false := beq_eq_false_iff_ne.2 h11
                  have hx : mStep l.length (outs, pile) c0 = (outs ++ [-1], pile) := by simp [mStep, hbg', h23, h11]
                  have HX := Lib.hid hx
                  clear hx
                  go_wp2
                  go_roundg m
                  case rel =>
                    refine ⟨k + 1, by have := HK.out; have := HM1.out; omega, by go_num, ?_, ?_, hne, hb⟩
                    · rw [HN.out, HX.out, HM1.out]; exact I1
                    · rw [HN.out, HX.out]; exact J0
                  case measure => have := HK.out; have := HM1.out; omega
          · have hkn : k = l.length := by have := HK.out; omega
            subst hkn
            rw [List.take_length, Nat.sub_self] at I0
            simp only [List.replicate_zero, List.append_nil] at I0
            go_wp2
            go_ret
            exact ⟨_, rfl, I0, hb⟩
end Go.Proofs.Ytfelcmppopibcaa
