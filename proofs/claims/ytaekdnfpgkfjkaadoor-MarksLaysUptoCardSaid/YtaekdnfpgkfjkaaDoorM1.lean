/- marks.Lay walked. -/
import Derived.Test.YtaekdnfpgkfjkaaDoorS3
import Derived.Test.YtaekdnfpgkfjkaaDoorL4
import Derived.Test.YtaekdnfpgkfjkaaDoorL5
namespace Go.Proofs.YtaekdnfpgkfjkaaDoor
open Go.RowKit
attribute [local go_sem] Oper.semAt_some

def outL (b : Int) (s : ByteArray) (ls : List Int) : List UInt8 := layL b (strL b s ls (chs s).length)
/-- What Lay tells. -/
def layF (rest : Int) (ch : List Chr) (s : ByteArray) (b : Int) (ls : List Int) : List UInt8 × Int :=
  if knL rest ch = false then ([], 240)
  else if (b ≠ 0 ∧ b ≠ 1) ∨ (chs s).length ≠ ls.length then ([], 2)
  else if 1048576 < (chs s).length then ([], 4)
  else if plnL rest ch (rnL s) = false then ([], 241)
  else if hadO b (clsL rest ch (rnL s)) ls = false then ([], 242)
  else if 1048576 < (chs (txt (outL b s ls))).length then ([], 4) else (outL b s ls, 0)

set_option maxRecDepth 100000 in
theorem Lay_nil {w : World} {x y z : Value} : Calls Tryd.prog 16 #[.nilIface, x, y, z] w fun r w' => r = .returned (.tuple #[.string ⟨#[]⟩, .int .i64 1]) ∧ w' = w := by
  go_enter Tryd.func16, Tryd.ntmps16
  go_wp2
  go_ret2
  exact ⟨rfl, rfl⟩

theorem BldR.below' {w w' : World} {b o B : Nat} {T : TypeId} {cs : Array Value} {v : Value} {l : List UInt8} (h : BldR w b o T cs v l) (hb : Below B w w') (hB : w.heap.size ≤ B) : BldR w' b o T cs v l := by
  refine ⟨h.blk.below hb (by have := h.blk.lt; omega), h.hv, ?_⟩
  rcases h.row with h0 | ⟨h0, g, cap, cur, fz, e, e1, e2, e3⟩
  · exact .inl h0
  · exact .inr ⟨h0, g, cap, cur, fz, e, e1, (hb.block g (by have := (Array.getElem?_eq_some_iff.1 e2).1; omega)).trans e2, e3⟩
theorem fst_le {g : List UInt8 × Int} : ∀ {gs : List (List UInt8 × Int)}, g ∈ gs → g.1.length ≤ (gs.flatMap (·.1)).length
  | x :: xs, h => by
    rw [List.flatMap_cons, List.length_append]
    rcases List.mem_cons.1 h with rfl | h
    · omega
    · have := fst_le h; omega
theorem layL_snoc {b : Int} {gs : List (List UInt8 × Int)} {k : Nat} (h : k < gs.length) : layL b (gs.take (k + 1)) = layL b (gs.take k) ++ laidL b (gs.getD k ([], 0)) := by
  unfold layL
  rw [List.take_succ_eq_append_getElem h, List.flatMap_append, List.flatMap_singleton, getD_at ([], 0) h]
theorem outL_len {b : Int} {s : ByteArray} {ls : List Int} (hb : b = 0 ∨ b = 1) (hL : LvOk b ls) (hn : (chs s).length = ls.length) (k : Nat) : (layL b ((strL b s ls (chs s).length).take k)).length ≤ s.size + 1000 * ((chs s).length + 1) := by
  have h1 := strL_lv (s := s) (by rcases hb with rfl | rfl <;> decide) hL (k := (chs s).length) (by omega)
  have h2 := layL_len (b := b) (by rcases hb with rfl | rfl <;> decide) ((strL b s ls (chs s).length).take k) (fun g hg => (h1 g (List.mem_of_mem_take hg)).2)
  have h3 := strL_len b s ls (chs s).length
  have h4 := fm_take_len (fun g : List UInt8 × Int => g.1) (strL b s ls (chs s).length) k
  have h5 : ((strL b s ls (chs s).length).flatMap (·.1)).length ≤ s.size := by
    unfold strL
    split
    · simp
    · rw [stT_fst b s ls _ (Nat.le_refl _)]; exact seg_len s _
  rw [List.length_take] at h2
  have : 1000 * min k (strL b s ls (chs s).length).length ≤ 1000 * ((chs s).length + 1) := Nat.mul_le_mul_left _ (by omega)
  omega

set_option maxRecDepth 100000 in
set_option maxHeartbeats 8000000 in
theorem Lay_ok {w : World} {B B2 n c : Nat} {pv : Value} {rest : Int} {ch : List Chr} {s : ByteArray} {b : Int} {ls : List Int} {A : Option Addr} (hT : Lib.Utf8Tabs 0 1 w) (h2 : 2 ≤ w.heap.size) (hP : PropsIs w B pv rest ch) (hL : RdInts w B2 .i8 A ls) (hn : n = ls.length)
    (hs : s.size ≤ 549755813888) (hnl : n ≤ 1099511627776) :
    Calls Tryd.prog 16 #[.iface 25 pv, .string s, .int .i8 b, .slice A n c] w fun r w' => r = .returned (.tuple #[.string (txt (layF rest ch s b ls).1), .int .i64 (layF rest ch s b ls).2]) ∧ Aft w w' := by
  replace hP := hP.clip
  replace hL : RdInts w w.heap.size .i8 A ls := Reads.clip hL
  have CN : ∀ W, Aft w W → Calls Tryd.prog 12 #[.iface 25 pv] W fun e w' => e = .returned (.bool (knL rest ch)) ∧ Aft W w' := fun W hW => Knows_ok (hP.below hW (.inl (Nat.le_refl _)))
  have CN0 := CN w (Aft.refl w)
  have hrl : (rnL s).length = (chs s).length := rnL_len s
  have hcl := chs_len s
  obtain ⟨res, hres⟩ : ∃ x, layF rest ch s b ls = x := ⟨_, rfl⟩
  rw [hres]
  have HRES := Lib.hid hres
  clear hres
  obtain ⟨kn, hkn⟩ : ∃ x, knL rest ch = x := ⟨_, rfl⟩
  rw [hkn] at CN0
  have CR : ∀ W, Calls Tryd.prog 35 #[.string s] W fun r w' => ∃ g cap, r = .returned (.slice (some ⟨g, 0, none⟩) (rnL s).length cap) ∧ Ints w' W.heap.size 21 .i32 (.slice (some ⟨g, 0, none⟩) (rnL s).length cap) (rnL s) ∧ Aft W w' := fun W => Runes_ok (by omega)
  obtain ⟨m, hm⟩ : ∃ m, (chs s).length = m := ⟨_, rfl⟩
  rw [hm] at hrl hcl
  rw [hrl] at CR
  have HM := Lib.hid hm
  have HRL := Lib.hid hrl
  clear hm hrl
  rcases kn with _ | _
  · have hr0 : res = ([], 240) := by rw [← HRES.out]; unfold layF; rw [if_pos hkn]
    subst hr0
    clear CN
    go_enter Tryd.func16, Tryd.ntmps16
    go_wp2_with (go_at_call 12; refine CN0.mono ?_; rintro r1 w1 ⟨rfl, b1⟩)
    go_ret2
    exact ⟨rfl, b1⟩
  by_cases hA : (b ≠ 0 ∧ b ≠ 1) ∨ m ≠ ls.length
  · have hr0 : res = ([], 2) := by rw [← HRES.out]; unfold layF; rw [if_neg (by rw [hkn]; simp), if_pos (by rw [HM.out]; exact hA)]
    subst hr0
    have hbad : ((b != 0 && b != 1) = true) ∨ ((b != 0 && b != 1) = false ∧ ((m : Int) != (n : Int)) = true) := by
      by_cases hb : b ≠ 0 ∧ b ≠ 1
      · left; simp [hb.1, hb.2]
      · right
        refine ⟨by simp; omega, ?_⟩
        have h1 := hA.resolve_left hb
        rw [← hn] at h1
        exact bne_iff_ne.2 (by omega)
    clear CN hA hn
    go_enter Tryd.func16, Tryd.ntmps16
    go_upto_region 6 with (first
      | (go_at_call 12; refine CN0.mono ?_; rintro r1 w1 ⟨rfl, b1⟩)
      | (go_at_call 35; refine (CR _).mono ?_; rintro r3 w3 ⟨g, cap, rfl, I3, b3⟩))
    rcases hb0 : (b != 0) with _ | _ <;> rcases hb1 : (b != 1) with _ | _ <;> rcases hmn : ((m : Int) != (n : Int)) with _ | _ <;> rw [hb0, hb1, hmn] at hbad <;> simp at hbad
    all_goals
      go_wp2
      go_ret2
      exact ⟨rfl, b1.trans b3⟩
  have hb : b = 0 ∨ b = 1 := by omega
  have hml : m = ls.length := by omega
  have hmn : n = m := by omega
  subst hmn
  have HML := Lib.hid hml
  have hE : ((n : Int) != (n : Int)) = false := bne_self_eq_false _
  have hbb : (b != 0 && b != 1) = false := by rcases hb with rfl | rfl <;> rfl
  clear hA
  by_cases hB : 1048576 < n
  · have hr0 : res = ([], 4) := by rw [← HRES.out]; unfold layF; rw [if_neg (by rw [hkn]; simp), if_neg (by rw [HM.out]; omega), if_pos (by rw [HM.out]; exact hB)]
    subst hr0
    clear CN hn hml
    clear HML
    go_enter Tryd.func16, Tryd.ntmps16
    go_upto_region 6 with (first
      | (go_at_call 12; refine CN0.mono ?_; rintro r1 w1 ⟨rfl, b1⟩)
      | (go_at_call 35; refine (CR _).mono ?_; rintro r3 w3 ⟨g, cap, rfl, I3, b3⟩))
    rcases hb with rfl | rfl
    all_goals
      go_wp2
      go_ret2
      exact ⟨rfl, b1.trans b3⟩
  have CC : ∀ W g cap, Aft w W → Ints W w.heap.size 21 .i32 (.slice (some ⟨g, 0, none⟩) n cap) (rnL s) → Calls Tryd.prog 36 #[.iface 25 pv, .slice (some ⟨g, 0, none⟩) n cap] W fun e w' => ∃ v, e = .returned (.tuple #[v, .int .i64 0]) ∧ Ints w' W.heap.size 22 .u8 v (clsL rest ch (rnL s)) ∧ Aft W w' := fun W g cap hW hI =>
    Classes_ok (hP.below hW (.inl (Nat.le_refl _))) hI.rd HRL.out.symm (by omega)
  have hcll : (clsL rest ch (rnL s)).length = n := by rw [clsL_len]; exact HRL.out
  obtain ⟨pl, hpl⟩ : ∃ x, plnL rest ch (rnL s) = x := ⟨_, rfl⟩
  have hres2 : res = if pl = false then ([], 241) else if hadO b (clsL rest ch (rnL s)) ls = false then ([], 242) else if 1048576 < (chs (txt (outL b s ls))).length then ([], 4) else (outL b s ls, 0) := by
    rw [← HRES.out]; unfold layF; rw [if_neg (by rw [hkn]; simp), if_neg (by rw [HM.out]; omega), if_neg (by rw [HM.out]; exact hB), hpl]
  have HR2 := Lib.hid hres2
  have HPL := Lib.hid hpl
  have HCL := Lib.hid hcll
  clear hres2 hpl CN HRES hn hcll hml
  go_enter Tryd.func16, Tryd.ntmps16
  go_upto_region 6 with (first
    | (go_at_call 12; refine CN0.mono ?_; rintro r1 w1 ⟨rfl, b1⟩)
    | (go_at_call 35; refine (CR _).mono ?_; rintro r3 w3 ⟨g, cap, rfl, I3, b3⟩))
  have b13 := b1.trans b3
  have hz1 := b1.size
  have hz3 := b3.size
  have CC3 := CC w3 g cap b13 (I3.base (fun j e => by have := (I3.lt j e).1; omega))
  go_cut [37] from 25 to 37 (fun cv wx => cv = .bool false ∧ wx = w3)
  case first =>
    rcases hb with rfl | rfl
    all_goals
      go_wp2
      go_meet
      exact ⟨rfl, rfl⟩
  case rest =>
    obtain ⟨rfl, rfl⟩ := hcut
    go_upto_region 11 with (go_at_call 36; refine CC3.mono ?_; rintro r4 w4 ⟨v4, rfl, I4, b4⟩; obtain ⟨A4, cap4, rfl, hca4, hcb4, R4⟩ := I4.val)
    rw [HCL.out] at hca4 ⊢
    have b14 := b13.trans b4
    have hz4 := b4.size
    have R3 := (I3.below b4 (Nat.le_refl _)).rd
    have CH : ∀ W, Aft w W → RdInts W W.heap.size .u8 A4 (clsL rest ch (rnL s)) → Calls Tryd.prog 38 #[.slice A4 n cap4, .int .i8 b, .slice A n c] W fun e w' => e = .returned (.bool (hadO b (clsL rest ch (rnL s)) ls)) ∧ Aft W w' := fun W hW hR =>
      reached_ok hR (hL.below hW (.inl (Nat.le_refl _))) HCL.out.symm HML.out rfl (by omega)
    have CH4 := CH w4 b14 R4
    clear CH
    go_wp2
    go_loopg [52] n (fun gk iv wr => ∃ i : Nat, i + gk = n ∧ iv = .int .i64 i ∧ (∀ j, j < i → isM ((rnL s).getD j 0) = false ∧ frmC ((clsL rest ch (rnL s)).getD j 0) = false) ∧ wr = w4)
    case atStart => exact ⟨0, by omega, rfl, by omega, rfl⟩
    case round =>
      obtain ⟨i, hi, rfl, hno, rfl⟩ := hrel
      by_cases hin : i < n
      · obtain ⟨b', off, e1, hb1, hb2, k1⟩ := R3.at_ (i := i) (by have := HRL.out; omega)
        cases e1
        rw [Nat.zero_add] at k1
        obtain ⟨b2', off2, rfl, hb3, hb4, k2⟩ := R4.at_ (i := i) (by have := HCL.out; omega)
        have hplno := plnL_no (rest := rest) (ch := ch) (rs := rnL s) (i := i) (by have := HRL.out; omega)
        rw [HPL.out] at hplno
        obtain ⟨r, hr⟩ : ∃ x, (rnL s).getD i 0 = x := ⟨_, rfl⟩
        obtain ⟨c', hc⟩ : ∃ x, (clsL rest ch (rnL s)).getD i 0 = x := ⟨_, rfl⟩
        rw [hr] at k1 hplno
        rw [hc] at k2 hplno
        have CI := fun W => Is_ok W r
        have CF := fun W => plain_ok W c'
        obtain ⟨mm, hmm⟩ : ∃ x, isM r = x := ⟨_, rfl⟩
        obtain ⟨f, hf⟩ : ∃ x, frmC c' = x := ⟨_, rfl⟩
        rw [hmm] at CI hplno
        rw [hf] at CF hplno
        have hstep : mm = false → f = false → ∀ j, j < i + 1 → isM ((rnL s).getD j 0) = false ∧ frmC ((clsL rest ch (rnL s)).getD j 0) = false := fun h1 h2 j hj => by
          by_cases e : j = i
          · subst e; rw [hr, hc, hmm, hf]; exact ⟨h1, h2⟩
          · exact hno j (by omega)
        have HST := Lib.hid hstep
        have HNO := Lib.hid hplno
        have HI := Lib.hid hi
        clear hstep hplno hno hi hr hc hmm hf CH4
        rcases mm with _ | _
        · rcases f with _ | _
          · go_wp2_with (first
              | (go_at_call 14; refine (CI _).mono ?_; rintro r6 w6 ⟨rfl, rfl⟩)
              | (go_at_call 37; refine (CF _).mono ?_; rintro r8 w8 ⟨rfl, rfl⟩))
            go_roundg (n - (i + 1))
            case rel => exact ⟨i + 1, by have := HI.out; omega, by go_num, HST.out (by trivial) (by trivial), rfl⟩
            case measure => have := HI.out; omega
          · have hp0 : pl = false := HNO.out (.inr rfl)
            have hr0 : res = ([], 241) := by rw [HR2.out, if_pos hp0]
            subst hr0
            go_wp2_with (first
              | (go_at_call 14; refine (CI _).mono ?_; rintro r6 w6 ⟨rfl, rfl⟩)
              | (go_at_call 37; refine (CF _).mono ?_; rintro r8 w8 ⟨rfl, rfl⟩))
            go_ret2
            exact ⟨rfl, b14⟩
        · have hp0 : pl = false := HNO.out (.inl rfl)
          have hr0 : res = ([], 241) := by rw [HR2.out, if_pos hp0]
          subst hr0
          go_wp2_with (go_at_call 14; refine (CI _).mono ?_; rintro r6 w6 ⟨rfl, rfl⟩)
          go_ret2
          exact ⟨rfl, b14⟩
      · have hp0 : pl = true := by
          rw [← HPL.out]
          exact plnL_yes fun j hj => hno j (by have := HRL.out; omega)
        have hr1 : res = if hadO b (clsL rest ch (rnL s)) ls = false then ([], 242) else if 1048576 < (chs (txt (outL b s ls))).length then ([], 4) else (outL b s ls, 0) := by rw [HR2.out, hp0, if_neg (by simp)]
        have hlv := lvOk_of (b := b) (cs := clsL rest ch (rnL s)) (ls := ls) (by have := HCL.out; have := HML.out; omega)
        obtain ⟨ho, hho⟩ : ∃ x, hadO b (clsL rest ch (rnL s)) ls = x := ⟨_, rfl⟩
        rw [hho] at hr1 hlv CH4
        have HR1 := Lib.hid hr1
        clear hr1 hho
        rcases ho with _ | _
        · have hr0 : res = ([], 242) := by rw [HR1.out, if_pos rfl]
          subst hr0
          go_wp2_with (go_at_call 38; refine CH4.mono ?_; rintro r5 w5 ⟨rfl, b5⟩)
          go_ret2
          exact ⟨rfl, b14.trans b5⟩
        · have hlvk := hlv rfl
          go_upto_region 22 with (go_at_call 38; refine CH4.mono ?_; rintro r5 w5 ⟨rfl, b5⟩)
          obtain ⟨bb, hbb5⟩ : ∃ bb, w5.heap.size = bb := ⟨_, rfl⟩
          have a5 := b14.trans b5
          have hz5 := b5.size
          obtain ⟨W6, hW6⟩ : ∃ W6, w5.alloc (.cells #[.pointer none, .slice none 0 0] 73) = W6 := ⟨_, rfl⟩
          have B6 : Blk W6 bb 73 #[.pointer none, .slice none 0 0] := by rw [← hW6, ← hbb5]; exact Blk.new w5 73 _
          have a6 : Aft w W6 := by rw [← hW6]; exact a5.alloc _
          rw [hW6, hbb5]
          have HBB := Lib.hid hbb5
          clear hW6 hbb5
          have hs6 : bb < W6.heap.size := B6.lt
          have hwb : w.heap.size ≤ bb := by have := HBB.out; have := a5.size; omega
          have CS := stretches_ok (w := W6) (s := s) (b := b) (ls := ls) (c := c) (tabs_aft hT a6) (by have := a6.size; omega) (by omega) (hL.below a6 (.inl (Nat.le_refl _))) HML.out (by have := HM.out; omega)
          obtain ⟨gs, hgs⟩ : ∃ gs, strL b s ls (chs s).length = gs := ⟨_, rfl⟩
          have hgl := strL_len b s ls (chs s).length
          have hglv := strL_lv (s := s) (b := b) (by omega) hlvk (k := (chs s).length) (by have := HM.out; have := HML.out; omega)
          have hol := outL_len hb hlvk (s := s) (by have := HM.out; have := HML.out; omega)
          have hfs : ∀ g ∈ gs, g.1.length ≤ s.size := fun g hg => by
            have h5 : ((strL b s ls (chs s).length).flatMap (·.1)).length ≤ s.size := by
              unfold strL
              split
              · simp
              · rw [stT_fst b s ls _ (Nat.le_refl _)]; exact seg_len s _
            rw [hgs] at h5
            exact Nat.le_trans (fst_le hg) h5
          have hou : outL b s ls = layL b gs := by unfold outL; rw [hgs]
          rw [hou] at HR1
          rw [hgs] at CS hgl hglv hol
          rw [HM.out] at hgl hol
          obtain ⟨gn, hgn⟩ : ∃ gn, gs.length = gn := ⟨_, rfl⟩
          rw [hgn] at hgl
          have HGN := Lib.hid hgn
          clear hgn hgs hou
          go_upto_region 23 with (go_at_call 39; refine CS.mono ?_; rintro r7 w7 ⟨gv, rfl, R7, b7⟩; obtain ⟨A7, cap7, rfl, hca7, hcb7, -⟩ := R7.val)
          rw [HGN.out] at hca7 R7 ⊢
          have hz7 := b7.size
          have hR7o : ∀ j, (Value.slice A7 gn cap7).ownBlock = some j → W6.heap.size ≤ j ∧ j < w7.heap.size := fun j e => R7.lt j e
          have B7 := B6.aft b7
          go_loopg [78] gn (fun gk iv wr => ∃ i : Nat, i + gk = gn ∧ iv = .int .i64 i ∧ Rw stC 2 wr W6.heap.size 77 (.slice A7 gn cap7) gs ∧ (∃ p v, Bld wr w7.heap.size bb 0 73 #[p, v] p v (layL b (gs.take i))) ∧ Aft w wr ∧ w7.heap.size ≤ wr.heap.size)
          case atStart => exact ⟨0, by omega, rfl, R7, ⟨_, _, ⟨B7, rfl, rfl, .inl rfl, World.ownsRow_nil _ _ _ _, by simp [Value.ownBlock], fun _ => rfl, by kernel_rfl⟩⟩, a6.trans b7, Nat.le_refl _⟩
          case round =>
            clear B7 B6 b7 R7 CN0 CR CC CC3 CH4 CS
            obtain ⟨i, hi, rfl, R8, ⟨p, v, D8⟩, a8, hz8⟩ := hrel
            by_cases hin : i < gn
            · have higs : i < gs.length := by have := HGN.out; omega
              have hA7 : ∃ g7, A7 = some ⟨g7, 0, none⟩ := by
                rcases R8.cases' with ⟨_, e⟩ | ⟨g7, cap', e, _⟩
                · rw [e] at higs; cases higs
                · injection e with e _ _; exact ⟨g7, e⟩
              obtain ⟨g7, rfl⟩ := hA7
              have hsn := layL_snoc (b := b) higs
              have hmem := getD_mem0 ([], 0) higs
              have hlv7 := hglv _ hmem
              have hfs7 := hfs _ hmem
              have hx : gs[i]? = some (gs.getD i ([], 0)) := by rw [List.getElem?_eq_getElem higs, getD_at ([], 0) higs]
              obtain ⟨x, hxx⟩ : ∃ x, gs.getD i ([], 0) = x := ⟨_, rfl⟩
              rw [hxx] at hsn hlv7 hfs7 hx
              obtain ⟨d, l⟩ := x
              simp only at hlv7 hfs7
              have hK := R8.at_ encT
              have k0 := hK.2.2.2.2.2.2 i _ hx 0 _ rfl
              have k1 := hK.2.2.2.2.2.2 i _ hx 1 _ rfl
              rw [Nat.add_zero] at k0
              obtain ⟨W9, hW9⟩ : ∃ W9, wr.alloc (.cells #[.string (txt d), .int .i8 l] 77) = W9 := ⟨_, rfl⟩
              have X9 : Blk W9 wr.heap.size 77 #[.string (txt d), .int .i8 l] := by rw [← hW9]; exact Blk.new wr 77 _
              have b9 : Aft wr W9 := by rw [← hW9]; exact (Aft.refl wr).alloc _
              have CL := laid_ok (w := W9) (b := b) (l := l) (d := d) hb hlv7 (by omega)
              have hol2 := hol (i + 1)
              rw [hsn, List.length_append] at hol2
              have HSN := Lib.hid hsn
              have HI := Lib.hid hi
              clear hsn hi hmem hxx hK hx hglv hol hfs
              go_upto_region 25 with (fail)
              clear hW9
              obtain ⟨x0, x1, xf, xl⟩ := X9.c2
              go_wp2_with (first
                | (go_at_call 41; refine CL.mono ?_; rintro r10 w10 ⟨rfl, b10⟩; have D10 := D8.frm (Frm.of_below (F := fun _ => False) (b9.trans b10)) id (fun _ _ => id); have hz10 := (b9.trans b10).size)
                | (go_at_call 40; refine (WriteString_ok D10 (by rw [txt_size]; omega) (by omega)).mono ?_; rintro r11 w11 ⟨rfl, v', D11, F11, hv'⟩))
              have D11 : Bld w11 w7.heap.size bb 0 73 #[.pointer (some ⟨bb, 0, none⟩), v'] (.pointer (some ⟨bb, 0, none⟩)) v' (layL b (gs.take i) ++ (txt (laidL b (d, l))).data.toList) := D11
              rw [txt_list, ← HSN.out] at D11
              have hvo : ∀ j, v.ownBlock = some j → w7.heap.size ≤ j := fun j e => (D8.row e).1
              have R10 := R8.below (b9.trans b10) (Nat.le_refl _)
              have hg7 := hR7o g7 rfl
              have R11 := R10.frm F11 (fun j e h => by
                have e : g7 = j := by simpa [Value.ownBlock] using e
                rcases h with h | h
                · omega
                · have := hvo _ h; omega)
              have a11 : Aft w w11 := Below.trans (a8.trans (b9.trans b10)) (F11.below (by have := (a8.trans (b9.trans b10)).size; omega) (fun j hj h => by
                rcases h with h | h
                · omega
                · have := hvo _ h; have := a8.size; omega))
              go_roundg (gn - (i + 1))
              case rel => exact ⟨i + 1, by have := HI.out; omega, by go_num, R11, ⟨_, _, D11⟩, a11, by have := F11.size; omega⟩
              case measure => have := HI.out; omega
            · have hin2 : gs.take i = gs := List.take_of_length_le (by have := HGN.out; omega)
              rw [hin2] at D8
              have hvo : ∀ j, v.ownBlock = some j → w7.heap.size ≤ j := fun j e => (D8.row e).1
              have S8 := String_ok D8.r
              have holl := hol i
              rw [hin2] at holl
              have htz : (txt (layL b gs)).size ≤ 9007199254740992 := by rw [txt_size]; omega
              obtain ⟨cnt, hcnt⟩ : ∃ x, (chs (txt (layL b gs))).length = x := ⟨_, rfl⟩
              rw [hcnt] at HR1
              have CC8 : ∀ W, Calls Tryd.prog 42 #[.string (txt (layL b gs))] W fun r w' => r = .returned (.int .i64 cnt) ∧ Aft W w' := fun W => by rw [← hcnt]; exact Count_ok htz
              clear hcnt hol hin2 hglv hfs
              have hw7 : w.heap.size ≤ w7.heap.size := by omega
              by_cases hcb : 1048576 < cnt
              · have hr0 : res = ([], 4) := by rw [HR1.out, if_neg (by simp), if_pos hcb]
                subst hr0
                go_wp2_with (first
                  | (go_at_call 43; refine S8.mono ?_; rintro r9 w9 ⟨rfl, E9, F9⟩)
                  | (go_at_call 42; refine (CC8 _).mono ?_; rintro r10 w10 ⟨rfl, b10⟩))
                go_ret2
                have a9 : Aft w w9 := Below.trans a8 (F9.below a8.size (fun j hj h => by have := hvo _ h; omega))
                exact ⟨rfl, a9.trans b10⟩
              · have hr0 : res = (layL b gs, 0) := by rw [HR1.out, if_neg (by simp), if_neg hcb]
                subst hr0
                go_wp2_with (first
                  | (go_at_call 43; first
                      | (refine S8.mono ?_; rintro r9 w9 ⟨rfl, E9, F9⟩)
                      | (refine (String_ok E10).mono ?_; rintro r11 w11 ⟨rfl, E11, F11⟩))
                  | (go_at_call 42; refine (CC8 _).mono ?_; rintro r10 w10 ⟨rfl, b10⟩; have E10 := E9.below' b10 (Nat.le_refl _)))
                go_ret2
                have a9 : Aft w w9 := Below.trans a8 (F9.below a8.size (fun j hj h => by have := hvo _ h; omega))
                have a10 := a9.trans b10
                exact ⟨rfl, Below.trans a10 (F11.below a10.size (fun j hj h => by have := hvo _ h; omega))⟩
end Go.Proofs.YtaekdnfpgkfjkaaDoor
