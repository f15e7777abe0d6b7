/- The reference's level runs walked: f39. -/
import Derived.Test.YthifeccmbojcdaaG4
import Derived.Test.YthifeccmbojcdaaT7
namespace Go.Proofs.Ythifeccmbojcdaa
open Go.RowKit
attribute [local go_sem] Oper.semAt_some

theorem et47 : ElemT Try.prog 47 52 2 32 := ElemT.mk' (.agg #[.slice none 0 0, .int .i8 0]) Try.underlying47 (by kernel_rfl) rfl (by omega)
theorem rKept_n {w : World} {B : Nat} {A : Option Addr} {c n : Nat} {l : List Int} (hn : n = l.length) (h : RdInts w B .u8 A l) (hl : n ≤ 8388608) :
    Calls Try.prog 30 #[.slice A n c] w fun r w' => ∃ v, r = .returned v ∧ Ints w' w.heap.size 3 .i64 v (keptL l) ∧ Below w.heap.size w w' := by
  subst hn; exact rKept_ok h hl
def grL (lv ks : List Int) : List (List Int × Int) := (grp lv ks).map (fun g => (g, lvAt lv (g.getD 0 0)))

theorem take_last {ks : List Int} {i : Nat} (h0 : 0 < i) (h : i ≤ ks.length) : (ks.take i).getD ((ks.take i).length - 1) 0 = ks.getD (i - 1) 0 := by
  have : (ks.take i).length = i := by simp; omega
  rw [this]
  simp only [List.getD_eq_getElem?_getD, List.getElem?_take]
  rw [if_pos (by omega)]
theorem take_one {ks : List Int} {i : Nat} (h : i < ks.length) : ks.take (i + 1) = ks.take i ++ [ks.getD i 0] := by
  rw [List.take_succ_eq_append_getElem h, List.getD_eq_getElem?_getD, List.getElem?_eq_getElem h]; rfl
/-- A character that opens a group. -/
theorem grL_new {lv ks : List Int} {i : Nat} (h : i < ks.length) (hd : i = 0 ∨ lvAt lv (ks.getD (i - 1) 0) ≠ lvAt lv (ks.getD i 0)) : grL lv (ks.take (i + 1)) = grL lv (ks.take i) ++ [([ks.getD i 0], lvAt lv (ks.getD i 0))] := by
  rw [take_one h]
  rcases Nat.eq_zero_or_pos i with h0 | h0
  · subst h0
    simp [grL, grp, spanN]
  · obtain ⟨G, g, e1, hg, hl, e2⟩ := grp_snoc lv (ks.getD i 0) (ks.take i) (fun e => by have := congrArg List.length e; rw [List.length_take, List.length_nil] at this; omega)
    rw [take_last h0 (by omega)] at e2
    rw [if_neg (hd.resolve_left (by omega))] at e2
    unfold grL
    rw [e2, e1]
    simp
/-- A character that goes on with the last group. -/
theorem grL_same {lv ks : List Int} {i : Nat} (h : i < ks.length) (h0 : 0 < i) (hd : lvAt lv (ks.getD (i - 1) 0) = lvAt lv (ks.getD i 0)) :
    ∃ (M : List (List Int × Int)) (g : List Int) (lg : Int), grL lv (ks.take i) = M ++ [(g, lg)] ∧ grL lv (ks.take (i + 1)) = M ++ [(g ++ [ks.getD i 0], lg)] := by
  rw [take_one h]
  obtain ⟨G, g, e1, hg, hl, e2⟩ := grp_snoc lv (ks.getD i 0) (ks.take i) (fun e => by have := congrArg List.length e; rw [List.length_take, List.length_nil] at this; omega)
  rw [take_last h0 (by omega), if_pos hd] at e2
  refine ⟨G.map (fun g => (g, lvAt lv (g.getD 0 0))), g, lvAt lv (g.getD 0 0), by unfold grL; rw [e1]; simp, ?_⟩
  unfold grL
  rw [e2]
  rcases g with _ | ⟨y, g⟩
  · exact absurd rfl hg
  · simp

set_option maxRecDepth 100000 in
set_option maxHeartbeats 4000000 in
theorem rRuns_ok {w : World} {B B2 n n2 c c2 : Nat} {A A2 : Option Addr} {cl lv : List Int} (hn : n = cl.length) (hn2 : n2 = lv.length) (he : n = n2) (h : RdInts w B .u8 A cl) (h2 : RdInts w B2 .i8 A2 lv) (hl : n ≤ 8388608) :
    Calls Try.prog 39 #[.slice A n c, .slice A2 n2 c2] w fun r w' => ∃ v L, r = .returned v ∧ GrpAt w' w.heap.size v L ∧ L.map (fun e => (e.1, e.2.1)) = grL lv (keptL cl) ∧ Below w.heap.size w w' := by
  subst he
  have HN := Lib.hid hn
  have HN2 := Lib.hid hn2
  clear hn hn2
  have hkb : ∀ k, k < (keptL cl).length → ∃ a : Nat, (keptL cl).getD k 0 = a ∧ a < n := fun k hk => by
    obtain ⟨a, e, h, _⟩ := keptL_in hk
    exact ⟨a, e, by have := HN.out; omega⟩
  have hm : (keptL cl).length ≤ 8388608 := by have := keptT_length cl cl.length; have := HN.out; unfold keptL; omega
  go_enter Try.func39, Try.ntmps39
  go_wp2_with (go_at_call 30; refine (rKept_n HN.out h hl).mono ?_; rintro r1 w1 ⟨kv, rfl, IK, b1⟩; obtain ⟨kA, kc, rfl, -, -, -⟩ := IK.val)
  generalize hks : keptL cl = ks at *
  obtain ⟨m, hml⟩ : ∃ m, ks.length = m := ⟨_, rfl⟩
  rw [hml] at hm hkb IK ⊢
  have RK := IK.rd
  have h1 := h2.below b1 (.inr (Nat.le_refl _))
  go_loopg [5, 7] m (fun gk ov iv wr => ∃ (i : Nat) (L : List Gr), i + gk = m ∧ iv = .int .i64 i ∧ Below w1.heap.size w1 wr ∧ GrpAt wr w1.heap.size ov L ∧ L.map (fun e => (e.1, e.2.1)) = grL lv (ks.take i) ∧ L.length ≤ i)
  case atStart => exact ⟨0, [], by omega, rfl, Below.refl _ _, GrpAt.nil _ _, by simp [grL, grp_nil], by simp⟩
  case round =>
    obtain ⟨i, L, hi, rfl, b2, hG, hL, hLn⟩ := hrel
    have HI := Lib.hid hi
    have HL := Lib.hid hL
    clear hi hL
    by_cases hlt : i < m
    · obtain ⟨a, ha, han⟩ := hkb i hlt
      have hbs := b2.size
      obtain ⟨g4, o4, rfl, _, hg4, kc4⟩ := (RK.below b2 (.inr (Nat.le_refl _))).cells (by rw [hml]; omega)
      have k4 := kc4 i (by rw [hml]; exact hlt)
      rw [ha] at k4
      have HKC := Lib.hid kc4
      obtain ⟨b3, o3, rfl, _, hb3, lc⟩ := (h1.below b2 (.inr (Nat.le_refl _))).cells (by have := HN2.out; omega)
      have l4 := lc a (by have := HN2.out; omega)
      have HLC := Lib.hid lc
      have hla : lv.getD a 0 = lvAt lv (a : Int) := rfl
      rw [hla] at l4
      clear kc4 lc hla
      go_upto_region 6 with (fail)
      go_cut [35] from 16 to 35 (fun cv wx => cv = .bool (decide (i = 0 ∨ lvAt lv (ks.getD (i - 1) 0) ≠ lvAt lv (ks.getD i 0))) ∧ ∃ d, wx = wr.drewN d)
      case first =>
        by_cases hi0 : i = 0
        · subst hi0
          go_quiet (fail)
          go_wp2
          go_meet
          exact ⟨by simp, _, rfl⟩
        · obtain ⟨p, hp, hpn⟩ := hkb (i - 1) (by omega)
          have k5 := HKC.out (i - 1) (by rw [hml]; omega)
          rw [hp] at k5
          have l5 := HLC.out p (by have := HN2.out; omega)
          have hlp : lv.getD p 0 = lvAt lv (p : Int) := rfl
          rw [hlp] at l5
          have hw1 : IntKind.i64.wrap ((i : Int) - 1) = ((i - 1 : Nat) : Int) := by rw [IntWalk.i64_in _ (by omega)]; omega
          have hz : ((i : Int) == 0) = false := by simp; omega
          have hdd : decide (i = 0 ∨ lvAt lv (ks.getD (i - 1) 0) ≠ lvAt lv (ks.getD i 0)) = (lvAt lv (a : Int) != lvAt lv (p : Int)) := by
            rw [hp, ha]
            by_cases e : lvAt lv (p : Int) = lvAt lv (a : Int)
            · simp [e, hi0]
            · simp [e, hi0, Ne.symm e]
          have HDD := Lib.hid hdd
          have HP := Lib.hid hp
          clear hdd hlp hp
          go_quiet (fail)
          go_wp2
          go_meet
          exact ⟨by rw [HDD.out], _, rfl⟩
      case rest =>
        obtain ⟨rfl, d, rfl⟩ := hcut
        clear HKC HLC
        go_upto_if 35 with (fail)
        go_cut [5] from 35 to 46 (fun ov wx => ∃ (L0 : List Gr) (g : List Int) (lg : Int) (gv : Value), GrpAt wx w1.heap.size ov (L0 ++ [(g, lg, gv)]) ∧ Below w1.heap.size w1 wx ∧ (L0.map (fun e => (e.1, e.2.1))) ++ [(g ++ [(a : Int)], lg)] = grL lv (ks.take (i + 1)) ∧ L0.length ≤ i)
        case first =>
          obtain ⟨vA, vc, rfl⟩ := row_shape hG.row
          have hGd : GrpAt (wr.drewN d) w1.heap.size (.slice vA L.length vc) L := ⟨hG.row, hG.each, hG.apart, hG.out⟩
          have b2d : Below w1.heap.size w1 (wr.drewN d) := ⟨b2.os, b2.tape, b2.output, b2.size, b2.block⟩
          rcases hnew : decide (i = 0 ∨ lvAt lv (ks.getD (i - 1) 0) ≠ lvAt lv (ks.getD i 0)) with _ | _
          · have hne : ¬ (i = 0 ∨ lvAt lv (ks.getD (i - 1) 0) ≠ lvAt lv (ks.getD i 0)) := of_decide_eq_false hnew
            have hi0 : 0 < i := Nat.pos_of_ne_zero (fun e => hne (.inl e))
            have hsame : lvAt lv (ks.getD (i - 1) 0) = lvAt lv (ks.getD i 0) := Classical.byContradiction (fun e => hne (.inr e))
            obtain ⟨M, g, lg, e1, e2⟩ := grL_same (by rw [hml]; exact hlt) hi0 hsame
            rw [ha] at e2
            have hLo := HL.out
            rw [e1] at hLo
            obtain ⟨L0, L1, rfl, hm0, hm1⟩ := List.map_eq_append_iff.1 hLo
            obtain ⟨e, rfl, he⟩ := List.map_eq_singleton_iff.1 hm1
            obtain ⟨g', lg', gv⟩ := e
            simp only [Prod.mk.injEq] at he
            obtain ⟨rfl, rfl⟩ := he
            have HE2 := Lib.hid e2
            have HM0 := Lib.hid hm0
            clear hLo hm1 hne hsame e1 e2 hm0
            go_wp2
            go_meet
            exact ⟨L0, g', lg', gv, hGd, b2d, by rw [HM0.out, HE2.out], by have := hLn; simp at this; omega⟩
          · have hnew' := of_decide_eq_true hnew
            have hgl := grL_new (lv := lv) (by rw [hml]; exact hlt) hnew'
            rw [ha] at hgl
            have HGL := Lib.hid hgl
            clear hgl hnew'
            go_wp2_with (at_builtin; go_must (refine wpList_app et47 rfl rfl rfl (World.ownsRow.alloc hGd.row _) rfl (Reads.blk (Blk.at_ (by simp)) rfl) ?_ ?_ ?_ ?_ ?_))
            · simp [Value.oneCell']
            · unfold maxLen; omega
            · omega
            · simp; omega
            intro v3 w3 O3 g3 hv3
            have hP := hGd.push O3 g3 hv3
            have b3 := (b2d.alloc hbs _).grown g3 (by simp; omega) (fun k e => (World.ownsRow.lt hGd.row k e).1)
            go_wp2
            go_meet
            exact ⟨L, [], lvAt lv (a : Int), .slice none 0 0, hP, b3, by rw [HL.out, HGL.out]; rfl, hLn⟩
        case rest =>
          obtain ⟨L0, g, lg, gv, hG2, b3, hmp, hL0⟩ := hcut
          have HMP := Lib.hid hmp
          clear hmp b2 hG k4 l4 hLn
          have hlen : (L0 ++ [(g, lg, gv)]).length = L0.length + 1 := by simp
          obtain ⟨og, cap, e, ho1, ho2⟩ := World.ownsRow.form hG2.row (by omega)
          subst e
          rw [hlen] at hG2
          obtain ⟨cur, hb1, hb2, hb3, hb4, hb5, hb6⟩ := own_blk (hlen ▸ hG2.row)
          have hIg := hG2.each (g, lg, gv) (by simp)
          obtain ⟨gA, gc, e2, _, _, _⟩ := hIg.val
          simp only at e2
          subst e2
          have hcell : wc.cell? ⟨og, L0.length * 2, none⟩ = some (.slice gA g.length gc) := by
            have := World.ownsRow.cells hG2.row (g := og) rfl (L0.length * 2) (.slice gA g.length gc) (by
              have hl := gr_length L0
              rw [List.flatMap_append, List.getElem?_append_right (by omega), hl, Nat.sub_self]
              rfl)
            rwa [add_lit, Nat.zero_add] at this
          have hfz : wc.frozen? ⟨og, L0.length * 2, none⟩ = false := hb2.frozen _
          obtain ⟨_, _, e, _, hg5, kc5⟩ := (RK.below b3 (.inr (Nat.le_refl _))).at_ (i := i) (by rw [hml]; exact hlt)
          injection e with e
          injection e with e1 e2
          subst e1 e2
          rw [ha] at kc5
          have hbs3 := b3.size
          have hw1 : IntKind.i64.wrap (L0.length : Int) = (L0.length : Int) := IntWalk.i64_in _ (by omega)
          have hgl : g.length ≤ 8388608 := by
            have hm1 : (g ++ [(a : Int)], lg) ∈ grL lv (ks.take (i + 1)) := by rw [← HMP.out]; simp
            obtain ⟨g', hg', e⟩ := List.mem_map.1 hm1
            have e : g' = g ++ [(a : Int)] := (Prod.mk.inj e).1
            subst e
            have := (List.sublist_flatten_of_mem hg').length_le
            rw [grp_flat, List.length_take, List.length_append] at this
            omega
          have hout := hG2.out (g, lg, .slice gA g.length gc) (by simp)
          clear hb1 hb3 hb4 hb5 hb6
          have hlt1 : (L0.length : Int) < (L0.length : Int) + 1 := by omega
          go_wp2
          go_region_law (first
            | (refine step_appI (v := .slice gA g.length gc) ei24 rfl (.tmp 57) (.tmp 62) rfl rfl (hIg.alloc _).drew rfl (Blk.at_ (w := wc) (by simp)).drew (by unfold maxLen; omega) (by omega) (by simp; omega) ?_
               intro g2 cap2 w5 I5 g5 hg5
               have B5 := ((hb2.alloc (.cells #[.int .i64 a] 3)).drew).grown g5 (fun e => hout og e.symm rfl)
               have w5f := B5.frozen (L0.length * 2)
               have w5c := (B5.cell (L0.length * 2)).trans ((hb2.cell (L0.length * 2)).symm.trans hcell)))
          all_goals
            have S6 := GrpAt.grow hG2.drew I5 g5 (by simpa using hg5)
            have b6 : Below w1.heap.size w1 (w5.setCell ⟨og, L0.length * 2, none⟩ (.slice (some ⟨g2, 0, none⟩) (g.length + 1) cap2)) :=
              ((((b3.drew).alloc hbs3 (.cells #[.int .i64 a] 3)).grown g5 (by simp; omega) (fun k e => (hIg.lt k e).1)).setCell (p := ⟨og, L0.length * 2, none⟩) ho1 _)
            clear B5 w5f w5c I5 g5 hg5
            go_wp2
            go_roundg (m - (i + 1))
            case rel =>
              refine ⟨i + 1, L0 ++ [(g ++ [(a : Int)], lg, _)], by have := HI.out; omega, by go_num, b6, S6, ?_, by simp; omega⟩
              rw [← HMP.out]; simp
            case measure => have := HI.out; omega
    · have him : i = m := by have := HI.out; omega
      subst him
      go_wp2
      go_ret
      have hL := HL.out
      rw [List.take_of_length_le (by omega)] at hL
      exact ⟨_, L, rfl, ⟨own_base hG.row (fun k e => Nat.le_trans b1.size (World.ownsRow.lt hG.row k e).1), fun e he => (hG.each e he).base (fun k e2 => Nat.le_trans b1.size ((hG.each e he).lt k e2).1), hG.apart, hG.out⟩, by rw [hL, hks], b1.trans (b2.mono b1.size)⟩
end Go.Proofs.Ythifeccmbojcdaa
