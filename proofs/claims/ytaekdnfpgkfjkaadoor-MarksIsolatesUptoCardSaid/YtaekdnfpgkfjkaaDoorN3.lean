/- The reference's once walked. -/
import Derived.Test.YtaekdnfpgkfjkaaDoorN2
namespace Go.Proofs.YtaekdnfpgkfjkaaDoor
open Go.RowKit
attribute [local go_sem] Oper.semAt_some

theorem OpL_T (s : ByteArray) : ∀ k, k ≤ (chs s).length → OpL (cloT s k).1 := fun k hk => by
  rw [cloT_R s k hk]
  exact (cloR_again _ [] (fun x hx => by cases hx)).2

set_option maxRecDepth 100000 in
set_option maxHeartbeats 4000000 in
theorem once_ok {w : World} {s : ByteArray} (hs : s.size ≤ 137438953472) :
    Calls Tryd.prog 49 #[.string s] w fun r w' => r = .returned (.string (txt (cloF s))) ∧ Aft w w' := by
  have hcl := chs_len s
  go_enter Tryd.func49, Tryd.ntmps49
  go_upto_region 5 with (go_at_call 44; refine (Chars_ok (Nat.le_trans hs (by omega))).mono ?_; rintro r1 w1 ⟨v, rfl, I, a1⟩; obtain ⟨A, cap, rfl, hcap, hcap2, hR⟩ := I.val)
  rw [rcL_len] at hcap ⊢
  obtain ⟨n, hn⟩ : ∃ n, (chs s).length = n := ⟨_, rfl⟩
  rw [hn] at hcap hcl ⊢
  have HN := Lib.hid hn
  clear hn I
  have hw1 : w.heap.size ≤ w1.heap.size := a1.size
  go_loopg [3, 4, 15] n (fun gk sv ov iv wr => ∃ k : Nat, k + gk = n ∧ iv = .int .i64 k ∧ sv = .string (txt (cloT s k).2) ∧ OwB wr w1.heap.size ov (cloT s k).1 ∧ Aft w1 wr)
  case atStart => exact ⟨0, by omega, rfl, rfl, OwB.nil _ _, Aft.refl _⟩
  case round =>
    obtain ⟨k, hk, rfl, rfl, I, b1⟩ := hrel
    by_cases hkn : k < n
    · have hkl : k < (chs s).length := by have := HN.out; omega
      have hlen := cloT_len s k (by omega)
      have hseg := seg_len s k
      have hOp := OpL_T s k (by omega)
      have hsS : cloT s (k + 1) = cloS (cloT s k) ((chs s).getD k default).r (cut s ((chs s).getD k default)) := rfl
      have hlast := @lastR_13 s k
      have hRr := hR.below b1 (.inl (Nat.le_refl _))
      obtain ⟨b, off, rfl, hb1, hb2, hc⟩ := hRr.at_ encC (rcL_at hkl) (by omega)
      have hp : 0 < k → wr.cell? ⟨b, off + (k - 1) * 4 + 2, none⟩ = some (.int .i32 (lastR s k)) := fun h0 => by
        obtain ⟨b', off', e, _, _, hc'⟩ := hRr.at_ encC (rcL_at (s := s) (k := k - 1) (by omega)) (by omega)
        injection e with e
        injection e with e1 e2
        subst e1 e2
        have := hc' 2 _ rfl
        obtain ⟨j, rfl⟩ : ∃ j, k = j + 1 := ⟨k - 1, by omega⟩
        rw [← Nat.add_assoc] at this
        exact this
      have hm := (chA_mem s 0 ((chs s).getD k default) (getD_mem0 _ hkl)).2.2.2.2.2
      obtain ⟨c, hcc⟩ : ∃ c, (chs s).getD k default = c := ⟨_, rfl⟩
      rw [hcc] at hc hsS hm
      have c0 := hc 0 _ rfl
      have c1 := hc 1 _ rfl
      have c2 := hc 2 _ rfl
      have c3 := hc 3 _ rfl
      rw [Nat.add_zero] at c0
      rw [← Nat.add_assoc] at c1 c2 c3
      have hcut := cut_len hm
      have hta1 := txt_app (cloT s k).2 s c
      have hta2 := txt_app ((cloT s k).2 ++ clsF (cloT s k).1) s c
      have htc := txt_cat (cloT s k).2 (clsF (cloT s k).1)
      rcases hst : cloT s k with ⟨L, out⟩
      rw [hst] at hsS hlen hOp I hlast hta1 hta2 htc
      simp only at hlen hOp I hlast hta1 hta2 htc
      obtain ⟨ct, hct⟩ : ∃ ct, cut s c = ct := ⟨_, rfl⟩
      rw [hct] at hsS hta1 hta2 hcut
      obtain ⟨cr, cb, cn⟩ := c
      simp only [rcF] at c0 c1 c2 c3 hm hsS hta1 hta2 hcut
      obtain ⟨q, hq⟩ : ∃ q, isQ ⟨cr, cb, cn⟩ = q := ⟨_, rfl⟩
      rw [hq] at c3
      obtain ⟨z, hz⟩ : ∃ z : Int, (cr : Int) = z := ⟨_, rfl⟩
      rw [hz] at c2 hsS
      obtain ⟨p, hpp⟩ : ∃ p, lastR s k = p := ⟨_, rfl⟩
      rw [hpp] at hlast hp
      have hclsl := clsF_len L
      have hz1 : (txt out).size ≤ 1099511627776 := by rw [txt_size]; omega
      have hz2 : (txt (clsF L)).size ≤ 4398046511104 := by rw [txt_size]; omega
      have hz3 : (txt (out ++ clsF L)).size ≤ 8796093022208 := by rw [txt_size, List.length_append]; omega
      have hLl : L.length ≤ 137438953472 := by omega
      have hx1 : (s.extract cb (cb + cn)).size ≤ 137438953472 := by rw [ByteArray.size_extract]; omega
      have HTA1 := Lib.hid hta1
      have HTA2 := Lib.hid hta2
      have HTC := Lib.hid htc
      clear hct hcc hst hRr hc hq hpp hta1 hta2 htc hclsl hcut hseg hlen
      obtain ⟨W1, hW1⟩ : ∃ W1, wr.alloc (.cells #[.int .i64 cb, .int .i64 cn, .int .i32 z, .bool q] 90) = W1 := ⟨_, rfl⟩
      have X1 : Blk W1 wr.heap.size 90 #[.int .i64 cb, .int .i64 cn, .int .i32 z, .bool q] := by rw [← hW1]; exact Blk.new wr 90 _
      have b2 : Aft w1 W1 := by rw [← hW1]; exact b1.alloc _
      have I2 := I.alloc (.cells #[.int .i64 cb, .int .i64 cn, .int .i32 z, .bool q] 90)
      rw [hW1] at I2
      have hp2 : 0 < k → W1.cell? ⟨b, off + (k - 1) * 4 + 2, none⟩ = some (.int .i32 p) := fun h0 => by
        rw [← hW1, World.cell?_alloc_lt wr _ ⟨b, _, none⟩ hb2]; exact hp h0
      have hb3 : b < W1.heap.size := by have := X1.lt; omega
      have hsz : wr.heap.size < W1.heap.size := X1.lt
      have hw2 : w1.heap.size ≤ wr.heap.size := b1.size
      clear hp
      obtain ⟨Ao, co, rfl, hco1, hco2, hRo, hA0⟩ := I2.val
      obtain ⟨m, hmm⟩ : ∃ m, L.length = m := ⟨_, rfl⟩
      rw [hmm] at hRo hco1 I2 I hLl ⊢
      have HM := Lib.hid hmm
      clear hmm I
      have HSS := Lib.hid hsS
      clear hsS hz
      go_upto_region 7 with (fail)
      clear hW1
      obtain ⟨z0, z1, z2, z3, zf, zl⟩ := X1.c4
      have hkk : ((k : Int) - 1) = ((k - 1 : Nat) : Int) ∨ k = 0 := by omega
      have CE := fun W => rEnds_ok W z
      have CL : Calls Tryd.prog 67 #[.slice Ao m co] W1 fun r w' => r = .returned (.string (txt (clsF L))) ∧ w' = W1 := closing_ok (by rw [HM.out]; exact hRo) hOp HM.out.symm (by omega)
      rcases hE : endC z with _ | _
      · rw [hE] at CE
        have e1 : (z == 10) = false := by simp [endC] at hE; simp; omega
        rcases hF : embC z with _ | _
        · have f1 : (z == 8234) = false := by simp [embC] at hF; simp; omega
          have f2 : (z == 8235) = false := by simp [embC] at hF; simp; omega
          have f3 : (z == 8237) = false := by simp [embC] at hF; simp; omega
          have f4 : (z == 8238) = false := by simp [embC] at hF; simp; omega
          rcases hG : isoC z with _ | _
          · have g1 : (z == 8294) = false := by simp [isoC] at hG; simp; omega
            have g2 : (z == 8295) = false := by simp [isoC] at hG; simp; omega
            have g3 : (z == 8296) = false := by simp [isoC] at hG; simp; omega
            rcases hH : (z == 8236) with _ | _
            · rcases hJ : (z == 8297) with _ | _
              · have hfin : cloT s (k + 1) = (L, out ++ ct) := by
                  rw [HSS.out]; unfold cloS
                  rw [hE, hF, hG, if_neg (by decide), if_neg (by decide), if_neg (by decide), if_neg (by simpa using hH), if_neg (by simpa using hJ)]
                have HFIN := Lib.hid hfin
                clear hfin hE hF hG
                go_wp2_with (go_at_call 53; refine (CE _).mono ?_; rintro r5 w5 ⟨rfl, rfl⟩)
                rw [HTA1.out]
                go_roundg (n - (k + 1))
                case rel => exact ⟨k + 1, by omega, by go_num, by rw [HFIN.out], by rw [HFIN.out]; exact I2, b2⟩
                case measure => omega
              · have hz : z = 8297 := by simpa using hJ
                subst hz
                obtain ⟨st', hst'⟩ : ∃ x, cloT s (k + 1) = x := ⟨_, rfl⟩
                have hfin : st' = if (isoL L).isSome = true then ((isoL L).getD L, out ++ ct) else (L, out) := by
                  rw [← hst', HSS.out]; unfold cloS
                  rw [hE, hF, hG, if_neg (by decide), if_neg (by decide), if_neg (by decide), if_neg (by decide), if_pos rfl]
                have HFIN := Lib.hid hfin
                have HST := Lib.hid hst'
                clear hfin hE hF hG HTA2 HTC HSS hst'
                obtain ⟨W2, hW2⟩ : ∃ W2, W2 = wr := ⟨_, rfl⟩
                subst hW2
                have hI0 : isoL L = isoT L m := by unfold isoL; rw [HM.out]
                have HI0 := Lib.hid hI0
                clear hI0
                go_wp2_with (go_at_call 53; refine (CE _).mono ?_; rintro r5 w5 ⟨rfl, h5⟩; replace h5 := h5.symm; subst h5)
                go_loopg [10] m (fun gk2 jv wq => jv = .int .i64 ((gk2 : Int) - 1) ∧ gk2 ≤ m ∧ isoT L m = isoT L gk2 ∧ wq = W1)
                case atStart => exact ⟨by go_num, Nat.le_refl _, rfl, rfl⟩
                case round =>
                  obtain ⟨rfl, hgn, hiso, rfl⟩ := hrel
                  rw [← HI0.out] at hiso
                  rcases gk with _ | i
                  · have h0 : st' = (L, out) := by rw [HFIN.out, hiso]; rfl
                    subst h0
                    clear HFIN
                    go_wp2
                    go_roundg (n - (k + 1))
                    case rel => exact ⟨k + 1, by omega, by go_num, by rw [HST.out], by rw [HST.out]; exact I2, b2⟩
                    case measure => omega
                  · have hii : (((i + 1 : Nat) : Int) - 1) = (i : Int) := by omega
                    rw [hii]
                    have him : i < m := by omega
                    have hil : i < L.length := by have := HM.out; omega
                    obtain ⟨bo, oo, rfl, _, hbo, kc⟩ := hRo.2 (by omega)
                    have hoo := hA0 _ _ rfl
                    subst hoo
                    have hv : (bvL L)[i]? = some (.bool (L.getD i 0 == 8297)) := by
                      unfold bvL
                      rw [List.getElem?_map, List.getElem?_eq_getElem hil, getD_at 0 hil]; rfl
                    have kc1 := kc _ _ hv
                    rw [Nat.zero_add] at kc1
                    have hx := hOp _ (getD_mem0 0 hil)
                    have I3 := I2.cut0 i (by omega)
                    obtain ⟨x, hxx⟩ : ∃ x, L.getD i 0 = x := ⟨_, rfl⟩
                    have hst : isoT L (i + 1) = if x = 8297 then some (L.take i) else isoT L i := by rw [← hxx]; rfl
                    rw [hxx] at hx kc1
                    clear hv hxx kc
                    rcases hx with rfl | rfl
                    · rw [hst, if_neg (by decide)] at hiso
                      have HISO := Lib.hid hiso
                      clear hst hiso
                      go_wp2
                      go_roundg i
                      case rel => exact ⟨by first | rfl | go_num, by omega, by rw [← HI0.out, HISO.out], rfl⟩
                      case measure => omega
                    · have h0 : st' = (L.take i, out ++ ct) := by rw [HFIN.out, hiso, hst, if_pos rfl]; rfl
                      subst h0
                      clear HFIN hst hiso
                      go_wp2
                      rw [HTA1.out]
                      go_roundg (n - (k + 1))
                      case rel => exact ⟨k + 1, by omega, by go_num, by rw [HST.out], by rw [HST.out]; exact I3, b2⟩
                      case measure => omega
            · have hz : z = 8236 := by simpa using hH
              subst hz
              by_cases hm0 : m = 0
              · have hL : L = [] := List.eq_nil_of_length_eq_zero (by have := HM.out; omega)
                have hfin : cloT s (k + 1) = (L, out) := by
                  rw [HSS.out]; unfold cloS
                  rw [hE, hF, hG, if_neg (by decide), if_neg (by decide), if_neg (by decide), if_pos rfl, hL]; rfl
                have HFIN := Lib.hid hfin
                clear hfin hE hF hG hL HTA1 HTA2 HTC HSS
                subst hm0
                go_wp2_with (go_at_call 53; refine (CE _).mono ?_; rintro r5 w5 ⟨rfl, rfl⟩)
                go_roundg (n - (k + 1))
                case rel => exact ⟨k + 1, by omega, by go_num, by rw [HFIN.out], by rw [HFIN.out]; exact I2, b2⟩
                case measure => omega
              · have hml : m - 1 < L.length := by have := HM.out; omega
                obtain ⟨bo, oo, rfl, _, hbo, kc⟩ := hRo.2 (by omega)
                have hoo := hA0 _ _ rfl
                subst hoo
                have hv : (bvL L)[m - 1]? = some (.bool (L.getD (m - 1) 0 == 8297)) := by
                  unfold bvL
                  rw [List.getElem?_map, List.getElem?_eq_getElem hml, getD_at 0 hml]; rfl
                have kc1 := kc _ _ hv
                rw [Nat.zero_add] at kc1
                have hx := hOp _ (getD_mem0 0 hml)
                have hm1 : ((m : Int) - 1) = ((m - 1 : Nat) : Int) := by omega
                have hw1' : IntKind.i64.wrap ((m : Int) - 1) = ((m - 1 : Nat) : Int) := by rw [IntWalk.i64_in _ (by omega)]; omega
                have hmlt : m - 1 < m := by omega
                have hmz : ((m : Int) == 0) = false := by simp; omega
                have hE2 : embL L = if L.getD (m - 1) 0 = 8236 then some (L.take (m - 1)) else none := by
                  unfold embL
                  rw [HM.out]
                  have : L ≠ [] := fun e => by rw [e] at hml; simp at hml
                  simp [this]
                have I3 := I2.cut0 (m - 1) (by omega)
                obtain ⟨x, hxx⟩ : ∃ x, L.getD (m - 1) 0 = x := ⟨_, rfl⟩
                rw [hxx] at hx kc1 hE2
                have hLe : (L.take (m - 1)).length = m - 1 := by rw [List.length_take]; omega
                clear hv hxx kc
                rcases hx with rfl | rfl
                · have hfin : cloT s (k + 1) = (L.take (m - 1), out ++ ct) := by
                    rw [HSS.out]; unfold cloS
                    rw [hE, hF, hG, if_neg (by decide), if_neg (by decide), if_neg (by decide), if_pos rfl, hE2, if_pos rfl]; rfl
                  have HFIN := Lib.hid hfin
                  clear hfin hE hF hG HTA2 HTC HSS hE2 hm1 hLe
                  go_wp2_with (go_at_call 53; refine (CE _).mono ?_; rintro r5 w5 ⟨rfl, rfl⟩)
                  rw [HTA1.out]
                  go_roundg (n - (k + 1))
                  case rel => exact ⟨k + 1, by omega, by go_num, by rw [HFIN.out], by rw [HFIN.out]; exact I3, b2⟩
                  case measure => omega
                · have hfin : cloT s (k + 1) = (L, out) := by
                    rw [HSS.out]; unfold cloS
                    rw [hE, hF, hG, if_neg (by decide), if_neg (by decide), if_neg (by decide), if_pos rfl, hE2, if_neg (show ¬ (8297 : Int) = 8236 by decide)]; rfl
                  have HFIN := Lib.hid hfin
                  clear hfin hE hF hG HTA2 HTC HSS hE2 hm1 hLe
                  go_wp2_with (go_at_call 53; refine (CE _).mono ?_; rintro r5 w5 ⟨rfl, rfl⟩)
                  go_roundg (n - (k + 1))
                  case rel => exact ⟨k + 1, by omega, by go_num, by rw [HFIN.out], by rw [HFIN.out]; exact I2, b2⟩
                  case measure => omega
          · have hz : z = 8294 ∨ z = 8295 ∨ z = 8296 := by simp [isoC] at hG; omega
            have hfin : cloT s (k + 1) = (L ++ [8297], out ++ ct) := by
              rw [HSS.out]; unfold cloS
              rw [hE, hF, hG, if_neg (by decide), if_neg (by decide), if_pos (by rfl)]
            have HFIN := Lib.hid hfin
            clear hfin CL
            rcases hz with rfl | rfl | rfl
            all_goals
              go_wp2_with (first
                | (go_at_call 53; refine (CE _).mono ?_; rintro r5 w5 ⟨rfl, rfl⟩)
                | (at_builtin; go_must (refine wpList_appB etB rfl rfl rfl (I2.alloc _) 8297 (b := true) rfl rfl (Blk.new _ _ _) ?_ ?_ ?_ ?_)))
              · unfold maxLen; rw [HM.out]; omega
              · rw [HM.out]; omega
              · rw [World.size_alloc]; omega
              intro g cap8 w8 I8 g8 hg8
              have a8 : Aft w1 w8 := (b2.alloc _).grown g8 (fun j e => by have := (I2.lt j e).1; omega)
              go_wp2
              rw [HTA1.out]
              go_roundg (n - (k + 1))
              case rel => exact ⟨k + 1, by omega, by go_num, by rw [HFIN.out], by rw [HFIN.out]; exact I8, a8⟩
              case measure => omega
        · have hz : z = 8234 ∨ z = 8235 ∨ z = 8237 ∨ z = 8238 := by simp [embC] at hF; omega
          have hfin : cloT s (k + 1) = (L ++ [8236], out ++ ct) := by
            rw [HSS.out]; unfold cloS
            rw [hE, hF, if_neg (by decide), if_pos (by rfl)]
          have HFIN := Lib.hid hfin
          clear hfin CL
          rcases hz with rfl | rfl | rfl | rfl
          all_goals
            go_wp2_with (first
              | (go_at_call 53; refine (CE _).mono ?_; rintro r5 w5 ⟨rfl, rfl⟩)
              | (at_builtin; go_must (refine wpList_appB etB rfl rfl rfl (I2.alloc _) 8236 (b := false) rfl rfl (Blk.new _ _ _) ?_ ?_ ?_ ?_)))
            · unfold maxLen; rw [HM.out]; omega
            · rw [HM.out]; omega
            · rw [World.size_alloc]; omega
            intro g cap8 w8 I8 g8 hg8
            have a8 : Aft w1 w8 := (b2.alloc _).grown g8 (fun j e => by have := (I2.lt j e).1; omega)
            go_wp2
            rw [HTA1.out]
            go_roundg (n - (k + 1))
            case rel => exact ⟨k + 1, by omega, by go_num, by rw [HFIN.out], by rw [HFIN.out]; exact I8, a8⟩
            case measure => omega
      · rw [hE] at CE
        have hfin : cloT s (k + 1) = ([], out ++ clsF L ++ ct) := by rw [HSS.out]; unfold cloS; rw [hE, if_pos rfl]
        have HFIN := Lib.hid hfin
        clear hfin HSS
        by_cases hJ : z = 10 ∧ 0 < k ∧ p = 13
        · obtain ⟨rfl, h0, rfl⟩ := hJ
          have hL := hlast rfl
          have hp3 := hp2 h0
          have hkl2 : k - 1 < n := by omega
          have hkm : ((k : Int) - 1) = ((k - 1 : Nat) : Int) := by omega
          have hkd : decide ((0 : Int) < (k : Int)) = true := decide_eq_true (by omega)
          have hta3 : txt out ++ s.extract cb (cb + cn) = txt (out ++ clsF L ++ ct) := by rw [HTA1.out, hL]; simp [clsF]
          have HTA3 := Lib.hid hta3
          have I3 : OwB W1 w1.heap.size (.slice Ao m co) [] := by rw [hL] at I2; exact I2
          clear hta3 hL hlast hp2 CL hE HTA1 HTA2 HTC hkk
          go_wp2_with (go_at_call 53; refine (CE _).mono ?_; rintro r5 w5 ⟨rfl, rfl⟩)
          rw [HTA3.out]
          go_roundg (n - (k + 1))
          case rel => exact ⟨k + 1, by omega, by go_num, by rw [HFIN.out], by rw [HFIN.out]; exact I3, b2⟩
          case measure => omega
        · have hta3 : txt out ++ txt (clsF L) ++ s.extract cb (cb + cn) = txt (out ++ clsF L ++ ct) := by rw [HTC.out, HTA2.out]
          have HTA3 := Lib.hid hta3
          have hz4 : (txt out ++ txt (clsF L)).size ≤ 8796093022208 := by rw [HTC.out]; exact hz3
          clear hta3 HTA1 HTA2 HTC hE hlast
          have hcase : (z == 10) = false ∨ (z = 10 ∧ k = 0) ∨ (z = 10 ∧ 0 < k ∧ (p == 13) = false) := by
            by_cases h1 : z = 10
            · by_cases h2 : k = 0
              · exact .inr (.inl ⟨h1, h2⟩)
              · exact .inr (.inr ⟨h1, by omega, by simp; omega⟩)
            · exact .inl (by simpa using h1)
          rcases hcase with h1 | ⟨rfl, rfl⟩ | ⟨rfl, h0, h3⟩
          · clear hp2 hkk hJ
            go_wp2_with (first
              | (go_at_call 53; refine (CE _).mono ?_; rintro r5 w5 ⟨rfl, h5⟩; replace h5 := h5.symm; subst h5)
              | (go_at_call 67; refine CL.mono ?_; rintro r6 w6 ⟨rfl, h6⟩; replace h6 := h6.symm; subst h6))
            rw [HTA3.out]
            go_roundg (n - (k + 1))
            case rel => exact ⟨k + 1, by omega, by go_num, by rw [HFIN.out], by rw [HFIN.out]; exact OwB.nil _ _, b2⟩
            case measure => omega
          · clear hp2 hkk hJ
            go_wp2_with (first
              | (go_at_call 53; refine (CE _).mono ?_; rintro r5 w5 ⟨rfl, h5⟩; replace h5 := h5.symm; subst h5)
              | (go_at_call 67; refine CL.mono ?_; rintro r6 w6 ⟨rfl, h6⟩; replace h6 := h6.symm; subst h6))
            rw [HTA3.out]
            go_roundg (n - 1)
            case rel => exact ⟨1, by omega, by go_num, by rw [HFIN.out], by rw [HFIN.out]; exact OwB.nil _ _, b2⟩
            case measure => omega
          · have hp3 := hp2 h0
            have hkl2 : k - 1 < n := by omega
            have hkm : ((k : Int) - 1) = ((k - 1 : Nat) : Int) := by omega
            have hkd : decide ((0 : Int) < (k : Int)) = true := decide_eq_true (by omega)
            clear hp2 hkk hJ
            go_wp2_with (first
              | (go_at_call 53; refine (CE _).mono ?_; rintro r5 w5 ⟨rfl, h5⟩; replace h5 := h5.symm; subst h5)
              | (go_at_call 67; refine CL.mono ?_; rintro r6 w6 ⟨rfl, h6⟩; replace h6 := h6.symm; subst h6))
            rw [HTA3.out]
            go_roundg (n - (k + 1))
            case rel => exact ⟨k + 1, by omega, by go_num, by rw [HFIN.out], by rw [HFIN.out]; exact OwB.nil _ _, b2⟩
            case measure => omega
    · have hke : k = (chs s).length := by have := HN.out; omega
      have hlen := cloT_len s k (by omega)
      have hseg := seg_len s k
      have hOp := OpL_T s k (by omega)
      have htc := txt_cat (cloT s k).2 (clsF (cloT s k).1)
      have hfin : cloF s = (cloT s k).2 ++ clsF (cloT s k).1 := by rw [hke]; rfl
      rw [← hfin] at htc
      rcases hst : cloT s k with ⟨L, out⟩
      rw [hst] at hlen hOp I htc
      simp only at hlen hOp I htc
      have hclsl := clsF_len L
      have hz1 : (txt out).size ≤ 1099511627776 := by rw [txt_size]; omega
      have hz2 : (txt (clsF L)).size ≤ 4398046511104 := by rw [txt_size]; omega
      obtain ⟨Ao, co, rfl, hco1, hco2, hRo, hA0⟩ := I.val
      have CL := closing_ok hRo hOp rfl (c := co) (by omega)
      obtain ⟨m, hmm⟩ : ∃ m, L.length = m := ⟨_, rfl⟩
      rw [hmm] at CL hco1 ⊢
      have HTC := Lib.hid htc
      have hkn2 : k = n := by omega
      clear htc hfin hst hclsl hseg hlen hke hmm hRo I
      subst hkn2
      go_wp2_with (go_at_call 67; refine CL.mono ?_; rintro r6 w6 ⟨rfl, h6⟩; replace h6 := h6.symm; subst h6)
      rw [HTC.out]
      go_ret
      exact ⟨rfl, a1.trans b1⟩
end Go.Proofs.YtaekdnfpgkfjkaaDoor
