/- Is a text plain, by the reference. -/
import Derived.Test.YtaekdnfpgkfjkaaDoorL3
import Derived.Test.YtaekdnfpgkfjkaaDoorL2
namespace Go.Proofs.YtaekdnfpgkfjkaaDoor
open Go.RowKit
attribute [local go_sem] Oper.semAt_some

/-- Is a text plain? -/
def plnL (rest : Int) (ch : List Chr) (rs : List Int) : Bool := rs.all fun r => !isM r && !frmC (clsC (cpL rest ch (runC r)))
theorem clsL_at {rest : Int} {ch : List Chr} {rs : List Int} {i : Nat} (h : i < rs.length) : (clsL rest ch rs).getD i 0 = clsC (cpL rest ch (runC (rs.getD i 0))) := by
  unfold clsL
  rw [List.getD_eq_getElem?_getD, List.getElem?_map, List.getD_eq_getElem?_getD, List.getElem?_eq_getElem h]
  rfl
theorem clsL_len (rest : Int) (ch : List Chr) (rs : List Int) : (clsL rest ch rs).length = rs.length := by simp [clsL]
theorem plnL_no {rest : Int} {ch : List Chr} {rs : List Int} {i : Nat} (h : i < rs.length) (h2 : isM (rs.getD i 0) = true ∨ frmC ((clsL rest ch rs).getD i 0) = true) : plnL rest ch rs = false := by
  rcases hp : plnL rest ch rs with _ | _
  · rfl
  · have := List.all_eq_true.1 hp _ (getD_mem0 0 h)
    rw [clsL_at h] at h2
    generalize rs.getD i 0 = x at *
    simp at this
    rcases h2 with h2 | h2
    · rw [h2] at this; simp at this
    · rw [h2] at this; simp at this
theorem plnL_yes {rest : Int} {ch : List Chr} {rs : List Int} (h : ∀ i, i < rs.length → isM (rs.getD i 0) = false ∧ frmC ((clsL rest ch rs).getD i 0) = false) : plnL rest ch rs = true := by
  refine List.all_eq_true.2 fun r hr => ?_
  obtain ⟨i, hi, e⟩ := List.mem_iff_getElem.1 hr
  have h1 := h i hi
  rw [clsL_at hi, List.getD_eq_getElem?_getD, List.getElem?_eq_getElem hi, Option.getD_some, e] at h1
  rw [h1.1, h1.2]; rfl

set_option maxRecDepth 100000 in
set_option maxHeartbeats 4000000 in
theorem rPlain_ok {w : World} {B : Nat} {pv : Value} {rest : Int} {ch : List Chr} {s : ByteArray} (hP : PropsIs w B pv rest ch) (hs : s.size ≤ 1099511627776) :
    Calls Tryd.prog 45 #[pv, .string s] w fun e w' => ∃ v, e = .returned (.tuple #[v, .bool (plnL rest ch (rnL s))]) ∧ (plnL rest ch (rnL s) = true → Ints w' w.heap.size 22 .u8 v (clsL rest ch (rnL s))) ∧ Aft w w' := by
  replace hP := hP.clip
  have CC : ∀ W g cap n, n = (rnL s).length → Aft w W → Ints W w.heap.size 21 .i32 (.slice (some ⟨g, 0, none⟩) n cap) (rnL s) → Calls Tryd.prog 60 #[pv, .slice (some ⟨g, 0, none⟩) n cap] W fun e w' => ∃ v, e = .returned v ∧ Ints w' W.heap.size 22 .u8 v (clsL rest ch (rnL s)) ∧ Aft W w' := fun W g cap n hn hW hI => by
    subst hn
    exact rClasses_ok (hP.below hW (.inl (Nat.le_refl _))) hI.rd rfl (by rw [rnL_len]; have := chs_len s; omega)
  have hrl : (rnL s).length ≤ s.size := by rw [rnL_len]; exact chs_len s
  obtain ⟨pA, pc, rfl, -, -⟩ := hP
  obtain ⟨pn, hpn⟩ : ∃ pn, ch.length = pn := ⟨_, rfl⟩
  rw [hpn] at CC ⊢
  clear hpn
  obtain ⟨W1, hW1⟩ : ∃ W1, w.alloc (.cells #[.int .u8 rest, .slice pA pn pc] 25) = W1 := ⟨_, rfl⟩
  have bW : Aft w W1 := by rw [← hW1]; exact (Aft.refl w).alloc _
  have X : Blk W1 w.heap.size 25 #[.int .u8 rest, .slice pA pn pc] := by rw [← hW1]; exact Blk.new w 25 _
  obtain ⟨cap, W2, h1, h2, h3⟩ := conv_runes W1 hs
  obtain ⟨n, hn⟩ : ∃ n, (rnL s).length = n := ⟨_, rfl⟩
  obtain ⟨pl, hpl⟩ : ∃ p, plnL rest ch (rnL s) = p := ⟨_, rfl⟩
  have hcl : (clsL rest ch (rnL s)).length = n := by rw [clsL_len, hn]
  have CC2 := CC W2 W1.heap.size cap n hn.symm (bW.trans h3) (by have := h2.base (B' := w.heap.size) (fun j e => by have := (h2.lt j e).1; have := bW.size; omega); rw [hn] at this; exact this)
  rw [hn] at h1 h2 hrl
  rw [hpl]
  have H2 := Lib.hid h2
  have HN := Lib.hid hn
  have HPL := Lib.hid hpl
  have HCL := Lib.hid hcl
  clear h2 hn hpl CC hcl
  go_enter Tryd.func45, Tryd.ntmps45
  go_upto_region 1 with (fail)
  clear hW1
  go_upto_region 2 with (fail)
  obtain ⟨x0, x1, xf, xl⟩ := (X.below h3 X.lt).c2
  go_upto_region 4 with (go_at_call 60; refine CC2.mono ?_; rintro r5 w5 ⟨v, rfl, I5, b5⟩)
  have I3 : Ints W2 W1.heap.size 21 .i32 (.slice (some ⟨W1.heap.size, 0, none⟩) n cap) (rnL s) := H2.out
  have I6 := I3.below b5 (Nat.le_refl _)
  have R6 := I6.rd
  obtain ⟨A5, cap5, rfl, hca, hcb, R5⟩ := I5.val
  rw [HCL.out] at hca ⊢
  have bw5 : Aft w w5 := (bW.trans h3).trans b5
  have hz1 := bW.size
  have hz2 := h3.size
  clear I6 I3 h1 CC2 x0 x1 xf xl
  go_loopg [8] n (fun gk iv wr => ∃ i : Nat, i + gk = n ∧ iv = .int .i64 i ∧ (∀ j, j < i → isM ((rnL s).getD j 0) = false ∧ frmC ((clsL rest ch (rnL s)).getD j 0) = false) ∧ Aft w5 wr)
  case atStart => exact ⟨0, by omega, rfl, by omega, Aft.refl _⟩
  case round =>
    obtain ⟨i, hi, rfl, hno, b1⟩ := hrel
    by_cases hin : i < n
    · obtain ⟨b', off, e1, hb1, hb2, k1⟩ := R6.at_ (i := i) (by have := HN.out; omega)
      cases e1
      obtain ⟨b2', off2, rfl, hb3, hb4, k2⟩ := R5.at_ (i := i) (by have := HCL.out; omega)
      have c1 : wr.cell? ⟨W1.heap.size, 0 + i, none⟩ = _ := (b1.cell hb2).trans k1
      rw [Nat.zero_add] at c1
      have hplno := plnL_no (rest := rest) (ch := ch) (rs := rnL s) (i := i) (by have := HN.out; omega)
      rw [HPL.out] at hplno
      obtain ⟨r, hr⟩ : ∃ x, (rnL s).getD i 0 = x := ⟨_, rfl⟩
      obtain ⟨c, hc⟩ : ∃ x, (clsL rest ch (rnL s)).getD i 0 = x := ⟨_, rfl⟩
      rw [hr] at c1 hplno
      rw [hc] at k2 hplno
      have CI := fun W => rIs_ok W r
      have CF := fun W => formats_ok W c
      obtain ⟨m, hm⟩ : ∃ x, isM r = x := ⟨_, rfl⟩
      obtain ⟨f, hf⟩ : ∃ x, frmC c = x := ⟨_, rfl⟩
      rw [hm] at CI hplno
      rw [hf] at CF hplno
      have hstep : m = false → f = false → ∀ j, j < i + 1 → isM ((rnL s).getD j 0) = false ∧ frmC ((clsL rest ch (rnL s)).getD j 0) = false := fun h1 h2 j hj => by
        by_cases e : j = i
        · subst e; rw [hr, hc, hm, hf]; exact ⟨h1, h2⟩
        · exact hno j (by omega)
      have HST := Lib.hid hstep
      have HNO := Lib.hid hplno
      have HI := Lib.hid hi
      clear hstep hplno hno hi hr hc hm hf k1
      have kk : ∀ W, Aft w5 W → W.cell? ⟨b2', off2 + i, none⟩ = some (.int .u8 c) := fun W hW => (hW.cell hb4).trans k2
      rcases m with _ | _
      · rcases f with _ | _
        · go_wp2_with (first
            | (go_at_call 15; refine (CI _).mono ?_; rintro r6 w6 ⟨rfl, b6⟩; have b7 := b1.trans b6; have c7 := kk _ b7)
            | (go_at_call 61; refine (CF _).mono ?_; rintro r8 w8 ⟨rfl, rfl⟩))
          go_roundg (n - (i + 1))
          case rel => exact ⟨i + 1, by have := HI.out; omega, by go_num, HST.out (by trivial) (by trivial), b7⟩
          case measure => have := HI.out; omega
        · have hp0 : pl = false := HNO.out (.inr rfl)
          subst hp0
          go_wp2_with (first
            | (go_at_call 15; refine (CI _).mono ?_; rintro r6 w6 ⟨rfl, b6⟩; have b7 := b1.trans b6; have c7 := kk _ b7)
            | (go_at_call 61; refine (CF _).mono ?_; rintro r8 w8 ⟨rfl, rfl⟩))
          go_ret2
          refine ⟨_, rfl, ?_, bw5.trans b7⟩
          intro h; exact absurd h (by decide)
      · have hp0 : pl = false := HNO.out (.inl rfl)
        subst hp0
        go_wp2_with (go_at_call 15; refine (CI _).mono ?_; rintro r6 w6 ⟨rfl, b6⟩)
        go_ret2
        refine ⟨_, rfl, ?_, bw5.trans (b1.trans b6)⟩
        intro h; exact absurd h (by decide)
    · have hp0 : pl = true := by
        rw [← HPL.out]
        exact plnL_yes fun j hj => hno j (by have := HN.out; omega)
      subst hp0
      have I9 := (I5.below b1 (Nat.le_refl _)).base (B' := w.heap.size) (fun j e => by have := (I5.lt j e).1; omega)
      rw [HCL.out] at I9
      go_wp2
      go_ret2
      refine ⟨_, rfl, ?_, bw5.trans b1⟩
      first | exact I9 | exact fun _ => I9
end Go.Proofs.YtaekdnfpgkfjkaaDoor
