/- SpansEach walked. -/
import Derived.Test.YtpdackbcnbhppaaX6
import Derived.Test.YtpdackbcnbhppaaT11
namespace Go.Proofs.Ytpdackbcnbhppaa
open Go.RowKit
attribute [local go_sem] Oper.semAt_some

theorem aft_drewN {w w' : World} (h : Aft w w') (n : Nat) : Aft w (w'.drewN n) := ⟨h.os, h.tape, h.output, h.size, h.block⟩
theorem cnt_one : ∀ {l : List Int} {x : Int}, l.Nodup → x ∈ l → l.count x = 1
  | a :: t, x, hn, hx => by
    obtain ⟨h1, h2⟩ := List.nodup_cons.1 hn
    by_cases e : a = x
    · subst e
      rw [List.count_cons_self, List.count_eq_zero.2 h1]
    · rw [List.count_cons_of_ne e]
      rcases List.mem_cons.1 hx with e2 | e2
      · exact absurd e2.symm e
      · exact cnt_one h2 e2
/-- How often each place has been seen. -/
def cntL (n : Nat) (P : List Int) : List Int := (List.range n).map fun (q : Nat) => ((P.count (q : Int) : Nat) : Int)
theorem cntL_len (n : Nat) (P : List Int) : (cntL n P).length = n := by unfold cntL; rw [List.length_map, List.length_range]
theorem cntL_get {n : Nat} (P : List Int) {q : Nat} (h : q < n) : (cntL n P).getD q 0 = ((P.count (q : Int) : Nat) : Int) := by
  unfold cntL
  rw [List.getD_eq_getElem?_getD, List.getElem?_map, List.getElem?_range h]; rfl
theorem cntL_snoc {n a : Nat} (P : List Int) (ha : a < n) : cntL n (P ++ [(a : Int)]) = (cntL n P).set a (((P.count (a : Int) : Nat) : Int) + 1) := by
  refine List.ext_getElem? fun q => ?_
  rcases Nat.lt_or_ge q n with hq | hq
  · rw [List.getElem?_set]
    unfold cntL
    rw [List.getElem?_map, List.getElem?_range hq]
    simp only [Option.map_some, List.count_append, List.length_map, List.length_range]
    by_cases e : a = q
    · subst e
      rw [if_pos rfl, if_pos ha, List.count_singleton_self]
      rfl
    · rw [if_neg e, List.getElem?_map, List.getElem?_range hq]
      have : List.count (q : Int) [(a : Int)] = 0 := by
        rw [List.count_eq_zero]; simp; omega
      rw [this]; rfl
  · rw [List.getElem?_eq_none (by rw [cntL_len]; exact hq), List.getElem?_eq_none (by rw [List.length_set, cntL_len]; exact hq)]
theorem cntL_zero (n : Nat) : cntL n [] = List.replicate n 0 := by
  refine List.ext_getElem? fun q => ?_
  unfold cntL
  rw [List.getElem?_map, List.getElem?_replicate]
  rcases Nat.lt_or_ge q n with hq | hq
  · rw [List.getElem?_range hq, if_pos hq]; rfl
  · rw [List.getElem?_eq_none (by simpa using hq), if_neg (by omega)]; rfl

theorem flat_take_len {α β : Type} (f : α → List β) (d : α) : ∀ (ss : List α) (i : Nat), i < ss.length → ((ss.take i).flatMap f).length + (f (ss.getD i d)).length ≤ (ss.flatMap f).length
  | [], i, h => by simp at h
  | s :: ss, 0, _ => by simp
  | s :: ss, i + 1, h => by
    have := flat_take_len f d ss i (by simpa using h)
    rw [List.take_succ_cons, List.flatMap_cons, List.flatMap_cons, List.length_append, List.length_append, List.getD_cons_succ]
    omega
theorem len_le_flat {α β : Type} (f : α → List β) : ∀ (ss : List α), (∀ s ∈ ss, 0 < (f s).length) → ss.length ≤ (ss.flatMap f).length
  | [], _ => by simp
  | s :: ss, h => by
    have h1 := len_le_flat f ss (fun x hx => h x (List.mem_cons_of_mem _ hx))
    have h2 := h s List.mem_cons_self
    rw [List.flatMap_cons, List.length_append, List.length_cons]
    omega
theorem flat_take_succ {α β : Type} (f : α → List β) {ss : List α} {i : Nat} {s : α} (h : ss[i]? = some s) : (ss.take (i + 1)).flatMap f = (ss.take i).flatMap f ++ f s := by
  rw [List.take_add_one, h]
  simp

set_option maxRecDepth 100000 in
set_option maxHeartbeats 4000000 in
theorem each_walk {w : World} {n c : Nat} {A : Option Addr} {l : List Int} {base : Int} (hn : n = l.length) (h : RdInts w w.heap.size .u8 A l) :
    Calls Try.prog 4 #[.int .i8 base, .slice A n c] w fun r w' => r = .returned (.bool true) ∧ Below w.heap.size w w' := by
  by_cases hb : base = 0 ∨ base = 1
  case neg =>
    have e1 : (base != 0) = true := by simp; omega
    have e2 : (base != 1) = true := by simp; omega
    clear h hn hb
    go_enter Try.func4, Try.ntmps4
    go_wp2_with (go_at_call 18; refine (awake17_ok _).mono ?_; rintro r1 w1 ⟨rfl, b1⟩)
    go_ret
    exact ⟨rfl, b1⟩
  have hE := each_ok hb l
  have CX : n ≤ 4000 → ∀ W, Aft w W → Calls Try.prog 19 #[.int .i8 base, .slice A n c] W fun r w' => ∃ lA lc cA cc mA mc ov, r = .returned (.tuple #[.agg #[.slice lA n lc, .slice cA n cc, .slice mA n mc], ov, .bool true]) ∧
      Ints w' W.heap.size 23 .i8 (.slice lA n lc) (exL base l) ∧ Ints w' W.heap.size 28 .u8 (.slice cA n cc) (exC base l) ∧ SqsOwn w' W.heap.size ov (exS base l) ∧ Below W.heap.size W w' :=
    fun h4 W hA => explicit_ok hb hn (h.aft hA) hA.le (by omega)
  have CM : n ≤ 4000 → ∀ W, Aft w W → Calls Try.prog 20 #[.slice A n c] W fun r w' => ∃ g, r = .returned (.slice (some ⟨g, 0, none⟩) n n) ∧ Ints w' W.heap.size 3 .i64 (.slice (some ⟨g, 0, none⟩) n n) (matchL l) ∧ Below W.heap.size W w' :=
    fun h4 W hA => Match_n hn (h.aft hA) (by omega)
  obtain ⟨ss, hss⟩ : ∃ ss, exS base l = ss := ⟨_, rfl⟩
  have hE : Ech l (exC base l) (exL base l) ss := by rw [← hss]; exact hE
  rw [hss] at CX
  have HE := Lib.hid hE
  have HN := Lib.hid hn
  have HCX := Lib.hid CX
  have HCM := Lib.hid CM
  obtain ⟨lv, hlv⟩ : ∃ lv, exL base l = lv := ⟨_, rfl⟩
  obtain ⟨nw, hnw⟩ : ∃ nw, exC base l = nw := ⟨_, rfl⟩
  have k1 : lv.length = n := by rw [← hlv, hn]; exact (runS_len base l (auP l) l.length).1
  have k2 : nw.length = n := by rw [← hnw, hn]; exact (runS_len base l (auP l) l.length).2
  have k3 : (matchL l).length = n := by rw [hn]; exact (matchL_inv l).len
  rw [hlv, hnw] at HE HCX
  have HK1 := Lib.hid k1
  have HK2 := Lib.hid k2
  have HK3 := Lib.hid k3
  clear hE hn CX CM hss hlv hnw k1 k2 k3
  have hbase : (base != 0 && base != 1) = false := by rcases hb with rfl | rfl <;> rfl
  have HB := Lib.hid hb
  by_cases h4 : 4000 < n
  · clear hb
    rcases HB.out with rfl | rfl
    · go_enter Try.func4, Try.ntmps4
      go_wp2_with (go_at_call 18; refine (awake17_ok _).mono ?_; rintro r1 w1 ⟨rfl, b1⟩)
      go_ret
      exact ⟨rfl, b1⟩
    · go_enter Try.func4, Try.ntmps4
      go_wp2_with (go_at_call 18; refine (awake17_ok _).mono ?_; rintro r1 w1 ⟨rfl, b1⟩)
      go_ret
      exact ⟨rfl, b1⟩
  have h40 : n ≤ 4000 := by omega
  have CX := HCX.out h40
  have CM := HCM.out h40
  have hm1 : n ≤ maxLen := by unfold maxLen; omega
  clear HCX HCM hb hbase
  rcases HB.out with rfl | rfl
  all_goals
    clear HB
    go_enter Try.func4, Try.ntmps4
    go_wp2_with fail
    refine (CX _ (Aft.refl w)).mono ?_
    rintro r1 w1 ⟨lA, lc, cA, cc, mA, mc, ov, rfl, IL, IC, SO, b1⟩
    have a1 : Aft w w1 := b1
    have Z := Blk.new w1 40 #[.slice none 0 0, .slice none 0 0, .slice none 0 0]
    obtain ⟨z0, z1, z2, zf, zl⟩ := Z.c3
    have Y := Blk.new w1 40 #[.slice lA n lc, .slice cA n cc, .slice mA n mc]
    have a2 := a1.alloc (.cells #[.slice lA n lc, .slice cA n cc, .slice mA n mc] 40)
    have aY := (Aft.refl w1).alloc (.cells #[.slice lA n lc, .slice cA n cc, .slice mA n mc] 40)
    obtain ⟨LL, hLL, hS⟩ := SO
    have hS2 := hS.below aY (Nat.le_refl _)
    have IL2 := IL.aft aY
    have IC2 := IC.aft aY
    go_upto_region 4 with (fail)
    obtain ⟨W2, hW2⟩ : ∃ W2, w1.alloc (.cells #[.slice lA n lc, .slice cA n cc, .slice mA n mc] 40) = W2 := ⟨_, rfl⟩
    rw [hW2] at a2 aY hS2 IL2 IC2
    rw [hW2]
    obtain ⟨y, hy⟩ : ∃ y, w1.heap.size = y := ⟨_, rfl⟩
    have hY : Blk W2 y 40 #[.slice lA n lc, .slice cA n cc, .slice mA n mc] := by rw [← hW2, ← hy]; exact Y
    rw [hy]
    clear z0 z1 z2 zf zl Z Y hW2 hy hS IL IC aY a1 b1
    go_wp2_with fail
    refine (CM _ a2).mono ?_
    rintro r3 w3 ⟨mg, rfl, IM, b3⟩
    have a3 := a2.trans b3
    have Y3 := hY.aft b3
    have S3 := hS2.below b3 (Nat.le_refl _)
    have IL3 := IL2.aft b3
    have IC3 := IC2.aft b3
    clear hS2 IL2 IC2 a2 hY b3
    obtain ⟨y0, y1, y2, yf, yl⟩ := Y3.c3
    go_wp2_with (at_make; go_must (refine wpList_mkI ei24 w3.heap.size rfl rfl n rfl rfl rfl rfl ?_ ?_ (Nat.le_refl _) ?_))
    · omega
    · exact hm1
    intro w5 BS g5
    have t5 : Aft w3 w5 := Aft.of_grown g5
    have hw3 : w.heap.size ≤ w3.heap.size := a3.le
    obtain ⟨B0, hB0⟩ : ∃ B0, w1.heap.size = B0 := ⟨_, rfl⟩
    obtain ⟨sg, hsg⟩ : ∃ sg, w3.heap.size = sg := ⟨_, rfl⟩
    have BS2 : Ints w5 sg 3 .i64 (.slice (some ⟨sg, 0, none⟩) n n) (cntL n []) := by rw [cntL_zero, ← hsg]; exact BS
    obtain ⟨m, hm⟩ : ∃ m, ss.length = m := ⟨_, rfl⟩
    have hLm : LL.length = m := by rw [← hm, ← hLL, List.length_map]
    obtain ⟨oA, oc, hov⟩ := row_shape S3.row
    rw [hLm] at hov
    subst hov
    have HM := Lib.hid hm
    have HLM := Lib.hid hLm
    have HLL := Lib.hid hLL
    have hTot : (ss.flatMap Sq.pl).length ≤ n := by
      rw [HE.out.perm.length_eq, HN.out]
      exact keptT_length l _
    have hmn : m ≤ 4000 := by
      have := len_le_flat Sq.pl ss (fun s hs => (HE.out.place s hs).1)
      omega
    rw [hsg]
    have hyl := Y3.lt
    rw [hsg] at hyl hw3
    have HSG := Lib.hid hsg
    have HPS : ∀ i, i < m → ((ss.take i).flatMap Sq.pl).length + (ss.getD i default).pl.length ≤ 4000 := by
      intro i hi
      have := flat_take_len Sq.pl default ss i (by omega)
      omega
    have HPS := Lib.hid HPS
    clear hTot hLm hm hLL BS g5 hsg hB0 y0 y1 y2 yf yl CX CM
    go_wp2
    go_loopg [10, 11] m (fun gk fv iv wr => ∃ (i : Nat) (f : Int), i + gk = m ∧ iv = .int .i64 i ∧ fv = .int .i64 f ∧ (∀ s, ss[i]? = some s → f < s.pl.getD 0 0) ∧ Ints wr sg 3 .i64 (.slice (some ⟨sg, 0, none⟩) n n) (cntL n ((ss.take i).flatMap Sq.pl)) ∧ Aft w3 wr)
    case atStart =>
      refine ⟨0, -1, by omega, rfl, rfl, fun s hs => ?_, BS2, t5⟩
      obtain ⟨h1, _, h2⟩ := HE.out.place s (List.mem_of_getElem? hs)
      obtain ⟨a, ea, _⟩ := h2 0 h1
      rw [ea]; omega
    case round =>
      obtain ⟨i, f, hi, rfl, rfl, hf, I5, t6⟩ := hrel
      have HI := Lib.hid hi
      have HF := Lib.hid hf
      clear hi hf BS2 t5
      have a6 := a3.trans t6
      by_cases hlt : i < m
      · obtain ⟨e, he⟩ : ∃ e, LL[i]? = some e := ⟨_, List.getElem?_eq_getElem (by have := HLM.out; omega)⟩
        have hs : ss[i]? = some e.1 := by rw [← HLL.out, List.getElem?_map, he]; rfl
        obtain ⟨g, cap, hv, _, hgl⟩ := World.ownsRow.form S3.row (by have := HLM.out; omega)
        rw [HLM.out] at hv
        cases hv
        have hpl := HE.out.place _ (List.mem_of_getElem? hs)
        have hck := HE.out.chk _ (List.mem_of_getElem? hs)
        have hgap := HE.out.gap _ (List.mem_of_getElem? hs)
        have hP := HPS.out i hlt
        have hsd : ss.getD i default = e.1 := by rw [List.getD_eq_getElem?_getD, hs]; rfl
        rw [hsd] at hP
        have hsucc := flat_take_succ Sq.pl hs
        have hfi := HF.out _ hs
        obtain ⟨pA, pc, CA, dc, -, -, q0, q1, q2, q3, q4, rp, rc⟩ := S3.get he
        have hnext : ∀ s, ss[i + 1]? = some s → e.1.pl.getD 0 0 < s.pl.getD 0 0 := by
          intro s hs'
          obtain ⟨h1, e1⟩ := List.getElem?_eq_some_iff.1 hs
          obtain ⟨h2, e2⟩ := List.getElem?_eq_some_iff.1 hs'
          have := List.pairwise_iff_getElem.1 HE.out.first i (i + 1) h1 h2 (by omega)
          rw [e1, e2] at this; exact this
        obtain ⟨⟨pl, cs, slv, so, eo⟩, v1, v2⟩ := e
        simp only at hpl hck hgap hP hsucc hfi q0 q1 q2 q3 q4 rp rc hnext
        obtain ⟨P0, hP0⟩ : ∃ P0, (ss.take i).flatMap Sq.pl = P0 := ⟨_, rfl⟩
        rw [hP0] at I5 hP hsucc
        obtain ⟨hp0, hcl, hat⟩ := hpl
        obtain ⟨np, hnp⟩ : ∃ np, pl.length = np := ⟨_, rfl⟩
        rw [hcl] at q1
        rw [hnp] at q0 q1 hp0 hat hP
        have HNP := Lib.hid hnp
        have HCL := Lib.hid (hcl.trans hnp)
        have CC : ∀ W, Aft w3 W → Calls Try.prog 21 #[.agg #[.slice pA np pc, .slice CA np dc, .int .i8 slv, .int .u8 so, .int .u8 eo]] W fun r w' => r = .returned (.int .i64 0) ∧ Below W.heap.size W w' := by
          intro W hA
          have := Check_ok (s := ⟨pl, cs, slv, so, eo⟩) (c := pc) (c2 := dc) hnp.symm (hcl.trans hnp).symm (rp.aft hA) (rc.aft hA) (by omega)
          rw [hck] at this
          exact this
        have HAT := Lib.hid hat
        have HGAP := Lib.hid hgap
        have HSUC := Lib.hid hsucc
        have HNX := Lib.hid hnext
        obtain ⟨a0, ea0, la0, -, -⟩ := hat 0 hp0
        rw [ea0] at hfi
        have hfb : decide ((a0 : Int) ≤ f) = false := by simp; omega
        have HA0 := Lib.hid ea0
        clear hs hsd hP0 hcl hnp hck hat hgap hsucc hnext he ea0
        obtain ⟨bp, op_, rfl, b1_, b2_, kp0⟩ := rp.at_ (i := 0) (by have := HNP.out; omega)
        rw [HA0.out, Nat.add_zero] at kp0
        have KEEP : ∀ W, Aft w3 W → W.cell? ⟨g, i * 5, none⟩ = some (.slice (some ⟨bp, op_, none⟩) np pc) ∧ W.cell? ⟨g, i * 5 + 1, none⟩ = some (.slice CA np dc) ∧ W.cell? ⟨g, i * 5 + 2, none⟩ = some (.int .i8 slv) ∧ W.cell? ⟨g, i * 5 + 3, none⟩ = some (.int .u8 so) ∧ W.cell? ⟨g, i * 5 + 4, none⟩ = some (.int .u8 eo) ∧ W.cell? ⟨bp, op_, none⟩ = some (.int .i64 a0) := by
          intro W hA
          obtain ⟨k1, -, -⟩ := bcell hA
          rw [k1 _ _ hgl, k1 _ _ hgl, k1 _ _ hgl, k1 _ _ hgl, k1 _ _ hgl, k1 _ _ b2_]
          exact ⟨q0, q1, q2, q3, q4, kp0⟩
        have HKEEP := Lib.hid KEEP
        obtain ⟨z0, z1, z2, z3, z4, z5⟩ := KEEP _ t6
        clear KEEP q0 q1 q2 q3 q4 kp0
        go_wp2_with fail
        refine (CC _ t6).mono ?_
        rintro r7 w7 ⟨rfl, b7⟩
        have t7 := t6.trans b7
        have I7 := I5.aft b7
        clear z0 z1 z2 z3 z4 z5
        obtain ⟨z0, z1, z2, z3, z4, z5⟩ := HKEEP.out _ t7
        clear I5 t6 b7 CC a6
        go_wp2
        clear z0 z1 z2 z3 z4 z5
        go_loopg [12] np (fun gk kv wr => ∃ k : Nat, k + gk = np ∧ kv = .int .i64 k ∧ Ints wr sg 3 .i64 (.slice (some ⟨sg, 0, none⟩) n n) (cntL n (P0 ++ pl.take k)) ∧ Aft w3 wr)
        case atStart => exact ⟨0, by omega, rfl, by rw [List.take_zero, List.append_nil]; exact I7, t7⟩
        case round =>
          obtain ⟨k, hk, rfl, I8, t8⟩ := hrel
          have HK := Lib.hid hk
          clear hk I7 t7
          obtain ⟨z0, z1, z2, z3, z4, z5⟩ := HKEEP.out _ t8
          by_cases hlk : k < np
          · obtain ⟨a, ea, la, hl, hc⟩ := HAT.out k hlk
            have han : a < n := by have := HN.out; omega
            obtain ⟨_, _, e1, _, _, kk⟩ := (rp.aft t8).at_ (i := k) (by have := HNP.out; omega)
            cases e1
            rw [ea] at kk
            obtain ⟨lb, lo, rfl, _, lb2, kl⟩ := (IL3.rd.aft t8).at_ (i := a) (by have := HK1.out; omega)
            rw [hl] at kl
            obtain ⟨nb, no, rfl, _, nb2, kn⟩ := (IC3.rd.aft t8).at_ (i := a) (by have := HK2.out; omega)
            obtain ⟨xb, xo, rfl, _, xb2, kx⟩ := (rc.aft t8).at_ (i := k) (by have := HCL.out; omega)
            rw [hc] at kx
            obtain ⟨zc, hzc⟩ : ∃ zc, nw.getD a 0 = zc := ⟨_, rfl⟩
            rw [hzc] at kn kx
            obtain ⟨y0, y1, y2, yf, yl⟩ := (Y3.aft t8).c3
            have f1 : decide (n ≤ a) = false := by simp; omega
            have f2 : (slv != slv) = false := by simp
            have f3 : (zc != zc) = false := by simp
            obtain ⟨q, hq⟩ : ∃ q : Nat, List.count (a : Int) (P0 ++ pl.take k) = q := ⟨_, rfl⟩
            have hq4 : q ≤ 4000 := by
              rw [← hq]
              refine Nat.le_trans List.count_le_length ?_
              rw [List.length_append, List.length_take]
              omega
            obtain ⟨-, -, -, -, sl, sf, sc⟩ := I8.at_
            have sca := sc a (by rw [cntL_len]; exact han)
            rw [cntL_get _ han, hq] at sca
            have hI10 : ∀ W, Ints W sg 3 .i64 (.slice (some ⟨sg, 0, none⟩) n n) (cntL n (P0 ++ pl.take k)) → Ints (W.setCell ⟨sg, a, none⟩ (.int .i64 ((q : Int) + 1))) sg 3 .i64 (.slice (some ⟨sg, 0, none⟩) n n) (cntL n (P0 ++ pl.take (k + 1))) := by
              intro W hW
              have hk' : k < pl.length := by have := HNP.out; omega
              have e : P0 ++ pl.take (k + 1) = (P0 ++ pl.take k) ++ [(a : Int)] := by
                rw [List.take_succ_eq_append_getElem hk', List.append_assoc]
                have : pl[k] = (a : Int) := by rw [← ea, List.getD_eq_getElem?_getD, List.getElem?_eq_getElem hk']; rfl
                rw [this]
              rw [e, cntL_snoc _ han, hq]
              exact hW.set a _
            have HI10 := Lib.hid hI10
            have HEA := Lib.hid ea
            clear sc hq hI10 hzc hl hc la ea
            go_wp2
            go_quiet (fail)
            have I9 := HI10.out _ (I8.drewN nq)
            have t9 : Aft w3 ((wr.drewN nq).setCell ⟨sg, a, none⟩ (.int .i64 ((q : Int) + 1))) := (aft_drewN t8 nq).set (by have := HSG.out; omega) _
            go_upto_region 24 with (fail)
            obtain ⟨W10, hW10⟩ : ∃ W10, (wr.drewN nq).setCell ⟨sg, a, none⟩ (.int .i64 ((q : Int) + 1)) = W10 := ⟨_, rfl⟩
            rw [hW10] at I9 t9
            rw [hW10]
            clear hW10 z0 z1 z2 z3 z4 z5 kk kl kn kx y0 y1 y2 yf yl sca sf sl I8 HI10
            obtain ⟨z0, z1, z2, z3, z4, z5⟩ := HKEEP.out _ t9
            by_cases hk0 : k = 0
            · subst hk0
              go_wp2
              go_roundg (np - (0 + 1))
              case rel => exact ⟨0 + 1, by have := HK.out; omega, by go_num, I9, t9⟩
              case measure => have := HK.out; omega
            · obtain ⟨kp, hkp⟩ : ∃ kp, kp + 1 = k := ⟨k - 1, by omega⟩
              have HKP := Lib.hid hkp
              obtain ⟨b, eb, lb_, -, -⟩ := HAT.out kp (by omega)
              obtain ⟨_, _, e1, _, _, kb⟩ := (rp.aft t9).at_ (i := kp) (by have := HNP.out; omega)
              cases e1
              rw [eb] at kb
              obtain ⟨hba, hgr⟩ := HGAP.out kp (by have := HNP.out; omega)
              rw [HKP.out, eb, HEA.out] at hba hgr
              have hba2 : b < a := by omega
              have e0 : (k : Int) - 1 = (kp : Int) := by omega
              have hkpn : kp < np := by omega
              have e00 : ((k : Int) == 0) = false := by simp; omega
              have e1k : (1 : Int) ≤ (k : Int) := by omega
              have HGR := Lib.hid hgr
              have hbn : b < n := by omega
              clear hgr hba eb lb_ hkp hk0
              obtain ⟨_, _, e1, _, _, km⟩ := (IM.rd.aft t9).at_ (i := b) (by have := HK3.out; omega)
              cases e1
              rw [Nat.zero_add] at km
              go_wp2
              go_loopg [15, 16] (a - (b + 1)) (fun gk zv jv wr => ∃ (j : Nat) (z : Bool), j + gk = a ∧ jv = .int .i64 j ∧ zv = .bool z ∧ b < j ∧ (z = true → lvAt (matchL l) (b : Int) = (a : Int)) ∧ wr = W10)
              case atStart => exact ⟨b + 1, false, by omega, by go_num, rfl, by omega, (fun e => by cases e), rfl⟩
              case round =>
                obtain ⟨j, z, hj, rfl, rfl, hbj, hz, rfl⟩ := hrel
                have HJ := Lib.hid hj
                have HZ := Lib.hid hz
                clear hj hz
                by_cases hja : j < a
                · obtain ⟨ab, ao, rfl, _, ab2, kj⟩ := (h.aft (a3.trans t9)).at_ (i := j) (by have := HN.out; omega)
                  obtain ⟨cj, hcj⟩ : ∃ cj, l.getD j 0 = cj := ⟨_, rfl⟩
                  rw [hcj] at kj
                  have hjn : j < n := by omega
                  have hrm := fun (W : World) => Removed_ok W cj
                  obtain ⟨rj, hrj⟩ : ∃ rj, remC cj = rj := ⟨_, rfl⟩
                  rw [hrj] at hrm
                  have hz2 : rj = false → lvAt (matchL l) (b : Int) = (a : Int) := by
                    intro hr
                    rcases HGR.out with h1 | h1
                    · have := h1 j (by omega) (by omega)
                      rw [hcj, hrj, hr] at this; cases this
                    · exact h1
                  have HZ2 := Lib.hid hz2
                  clear hz2 hrj hcj
                  cases z
                  case true =>
                    go_wp2
                    go_roundg (a - (j + 1))
                    case rel => exact ⟨j + 1, true, by have := HJ.out; omega, by go_num, rfl, by omega, (fun _ => HZ.out trivial), rfl⟩
                    case measure => have := HJ.out; omega
                  case false =>
                    go_wp2_with (go_at_call 22; refine (hrm _).mono ?_; rintro r12 w12 ⟨rfl, rfl⟩)
                    go_roundg (a - (j + 1))
                    case rel => exact ⟨j + 1, !rj, by have := HJ.out; omega, by go_num, rfl, by omega, (fun e => HZ2.out (by simpa using e)), rfl⟩
                    case measure => have := HJ.out; omega
                · have hje : j = a := by have := HJ.out; omega
                  subst hje
                  cases z
                  case false =>
                    go_wp2
                    go_roundg (np - (k + 1))
                    case rel => exact ⟨k + 1, by have := HK.out; omega, by go_num, I9, t9⟩
                    case measure => have := HK.out; omega
                  case true =>
                    have hmb : lvAt (matchL l) (b : Int) = (j : Int) := by first | exact HZ.out rfl | exact HZ.out trivial
                    unfold lvAt at hmb
                    rw [Int.toNat_natCast] at hmb
                    rw [hmb] at km
                    have ejj : ((j : Int) != (j : Int)) = false := by simp
                    clear hmb
                    go_wp2
                    go_roundg (np - (k + 1))
                    case rel => exact ⟨k + 1, by have := HK.out; omega, by go_num, I9, t9⟩
                    case measure => have := HK.out; omega
          · have hke : k = np := by have := HK.out; omega
            subst hke
            have hpk : P0 ++ pl.take k = (ss.take (i + 1)).flatMap Sq.pl := by rw [HSUC.out, List.take_of_length_le (by have := HNP.out; omega)]
            rw [hpk] at I8
            clear hpk
            go_wp2
            go_roundg (m - (i + 1))
            case rel => exact ⟨i + 1, (a0 : Int), by have := HI.out; omega, by go_num, rfl, fun s hs => by rw [← HA0.out]; exact HNX.out s hs, I8, t8⟩
            case measure => have := HI.out; omega
      · have hie : i = m := by have := HI.out; omega
        subst hie
        have hcnt : ∀ q, q < n → List.count (q : Int) (ss.flatMap Sq.pl) = if remC (l.getD q 0) = true then 0 else 1 := by
          intro q hq
          rw [HE.out.perm.count_eq]
          have hnd : (keptL l).Nodup := (keptL_pw l).imp (fun h e => by omega)
          split
          · rename_i hr
            rw [List.count_eq_zero]
            intro hm
            obtain ⟨a, ea, _, ra⟩ := keptL_mem.1 hm
            have e2 : q = a := by omega
            rw [e2, ra] at hr; cases hr
          · rename_i hr
            exact cnt_one hnd (keptL_mem.2 ⟨q, rfl, by rw [← HN.out]; exact hq, by simpa using hr⟩)
        have htk : ss.take i = ss := List.take_of_length_le (by have := HM.out; omega)
        rw [htk] at I5
        have HCNT := Lib.hid hcnt
        clear hcnt htk
        obtain ⟨-, -, -, -, sl, sf, sc⟩ := I5.at_
        have HSC := Lib.hid sc
        clear sc
        obtain ⟨W8, rfl⟩ : ∃ W8, W8 = wr := ⟨_, rfl⟩
        go_wp2
        go_loopg [17] n (fun gk qv wr => ∃ q d : Nat, q + gk = n ∧ qv = .int .i64 q ∧ wr = W8.drewN d)
        case atStart => exact ⟨0, 0, by omega, rfl, rfl⟩
        case round =>
          obtain ⟨q, d, hq, rfl, rfl⟩ := hrel
          have HQ := Lib.hid hq
          clear hq
          by_cases hqn : q < n
          · have sq := HSC.out q (by rw [cntL_len]; exact hqn)
            rw [cntL_get _ hqn, HCNT.out q hqn] at sq
            obtain ⟨ab, ao, rfl, _, ab2, kj⟩ := (h.aft a6).at_ (i := q) (by have := HN.out; omega)
            obtain ⟨cj, hcj⟩ : ∃ cj, l.getD q 0 = cj := ⟨_, rfl⟩
            rw [hcj] at kj sq
            have hrm := fun (W : World) => Removed_ok W cj
            obtain ⟨rj, hrj⟩ : ∃ rj, remC cj = rj := ⟨_, rfl⟩
            rw [hrj] at hrm sq
            clear hrj hcj
            cases rj
            · rw [if_neg (by decide)] at sq
              go_wp2
              go_quiet ((go_at_call 22; refine (hrm _).mono ?_; rintro r12 w12 ⟨rfl, rfl⟩; first | exact ⟨rfl, _, rfl⟩ | exact ⟨rfl, _, World.drewN_drewN.symm⟩))
              go_wp2
              go_roundg (n - (q + 1))
              case rel => exact ⟨q + 1, _, by have := HQ.out; omega, by go_num, rfl⟩
              case measure => have := HQ.out; omega
            · rw [if_pos rfl] at sq
              go_wp2
              go_quiet ((go_at_call 22; refine (hrm _).mono ?_; rintro r12 w12 ⟨rfl, rfl⟩; first | exact ⟨rfl, _, rfl⟩ | exact ⟨rfl, _, World.drewN_drewN.symm⟩))
              go_wp2
              go_roundg (n - (q + 1))
              case rel => exact ⟨q + 1, _, by have := HQ.out; omega, by go_num, rfl⟩
              case measure => have := HQ.out; omega
          · have hqe : q = n := by have := HQ.out; omega
            subst hqe
            go_wp2_with fail
            refine (awake17_ok _).mono ?_
            rintro r13 w13 ⟨rfl, b13⟩
            go_wp2
            go_ret
            exact ⟨rfl, (aft_drewN a6 d).trans b13⟩
end Go.Proofs.Ytpdackbcnbhppaa
