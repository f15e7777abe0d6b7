/- Any props, text, base and levels laid, or the error, by both; what is handed in stays: true, within the second form (arguments of bulk at most 1048576). -/
import Derived.Test.YtaekdnfpgkfjkaaDoorM1
import Derived.Test.YtaekdnfpgkfjkaaDoorN1
import Derived.Deep.RegionHeld3
import Derived.Deep.CutBlock
import Derived.Test.YtaekdnfpgkfjkaaDoorN8
import Derived.Test.YtaekdnfpgkfjkaaDoorKit2
import Derived.OpenShut
import Derived.Test.YtaekdnfpgkfjkaaDoorP1
import Derived.Lib.SmallJoins
import Derived.Deep.Slices
import Derived.SizedLaws
import Derived.Test.YtaekdnfpgkfjkaaDoorShelf
import Derived.Test.YtaekdnfpgkfjkaaDoorCards
import Derived.Test.YtaekdnfpgkfjkaaDoorTie
import Derived.WalkKit
import Derived.ProofKit
import Derived.Deep.DeepHandedRow
import Derived.Deep.DeepWitnessRowRef
import Derived.Lib.LaidIn
import Derived.Lib.LaidU8T
import Derived.Test.YtaekdnfpgkfjkaaDoorRows
import Derived.ShutString
import Derived.ChangeOld
import Derived.Below
section
namespace Go.Proofs.YtaekdnfpgkfjkaaDoor
open Go.RowKit

/-- Where a stretch begins. -/
def Brd (b : Int) (s : ByteArray) (ls : List Int) (f : Nat) : Prop :=
  f = 0 ∨ (0 < f ∧ (stT b s ls (f + 1) = ⟨strL b s ls f, cut s ((chs s).getD f default), ls.getD f 0, true⟩ ∧ ls.getD f 0 ≠ -1))
/-- Within a stretch. -/
def Ins (b : Int) (s : ByteArray) (ls : List Int) (f t : Nat) (l : Int) (is : Bool) : Prop :=
  (t = f ∧ l = b ∧ is = false) ∨ (f < t ∧ stT b s ls t = ⟨strL b s ls f, seg s f t, l, is⟩)
theorem seg_one {s : ByteArray} {f : Nat} (h : f < (chs s).length) : seg s f (f + 1) = cut s ((chs s).getD f default) := by
  rw [seg_snoc (Nat.le_refl _) h, seg_nil]; rfl
theorem Ins.go {b : Int} {s : ByteArray} {ls : List Int} {f t : Nat} {l : Int} {is : Bool} (hB : Brd b s ls f) (h : Ins b s ls f t l is) (ht : t < (chs s).length) (hc : ls.getD t 0 = -1 ∨ is = false ∨ ls.getD t 0 = l) :
    Ins b s ls f (t + 1) (if ls.getD t 0 = -1 then l else ls.getD t 0) (if ls.getD t 0 = -1 then is else true) := by
  rcases h with ⟨rfl, rfl, rfl⟩ | ⟨hlt, hst⟩
  · right
    refine ⟨by omega, ?_⟩
    rcases hB with rfl | ⟨h0, h1, h2⟩
    · have : stT l s ls 1 = grS ⟨[], [], l, false⟩ (cut s ((chs s).getD 0 default)) (ls.getD 0 0) := rfl
      rw [show (0 : Nat) + 1 = 1 from rfl, this, seg_one ht]
      unfold grS
      by_cases h : ls.getD 0 0 = -1
      · rw [if_pos (.inl h), if_pos h, if_pos h]; rfl
      · rw [if_neg (fun e => e.elim h (fun e => by cases e.1)), if_pos rfl, if_neg h, if_neg h]; rfl
    · rw [h1, seg_one ht, if_neg h2, if_neg h2]
  · right
    refine ⟨by omega, ?_⟩
    have : stT b s ls (t + 1) = grS (stT b s ls t) (cut s ((chs s).getD t default)) (ls.getD t 0) := rfl
    rw [this, hst, seg_snoc (by omega) ht]
    unfold grS
    by_cases h : ls.getD t 0 = -1
    · rw [if_pos (.inl h), if_pos h, if_pos h]
    · rw [if_neg h, if_neg h]
      rcases is with _ | _
      · rw [if_neg (fun e => e.elim h (fun e => by cases e.1)), if_pos rfl]
      · have h2 : ls.getD t 0 = l := by rcases hc with hc | hc | hc; exact absurd hc h; cases hc; exact hc
        rw [if_pos (.inr ⟨rfl, h2⟩), h2]
theorem Ins.brd {b : Int} {s : ByteArray} {ls : List Int} {f t : Nat} {l : Int} {is : Bool} (h : Ins b s ls f t l is) (h1 : ls.getD t 0 ≠ -1) (h2 : is = true) (h3 : ls.getD t 0 ≠ l) : Brd b s ls t ∧ f < t := by
  subst h2
  rcases h with ⟨_, _, h⟩ | ⟨hlt, hst⟩
  · cases h
  refine ⟨.inr ⟨by omega, ?_, h1⟩, hlt⟩
  have e : stT b s ls (t + 1) = grS (stT b s ls t) (cut s ((chs s).getD t default)) (ls.getD t 0) := rfl
  have e2 : strL b s ls t = grL (stT b s ls t) := if_neg (by omega)
  rw [e, e2, hst]
  unfold grS grL
  rw [if_neg (fun e => e.elim h1 (fun e => h3 e.2)), if_neg (by simp)]
theorem Ins.str {b : Int} {s : ByteArray} {ls : List Int} {f t : Nat} {l : Int} {is : Bool} (h : Ins b s ls f t l is) (hf : f < t) : strL b s ls t = strL b s ls f ++ [(seg s f t, l)] := by
  rcases h with ⟨rfl, _⟩ | ⟨_, hst⟩
  · omega
  have e2 : strL b s ls t = grL (stT b s ls t) := if_neg (by omega)
  rw [e2, hst]; rfl
theorem layL_one (b : Int) (gs : List (List UInt8 × Int)) (g : List UInt8 × Int) : layL b (gs ++ [g]) = layL b gs ++ laidL b g := by simp [layL]
theorem outT_len {b : Int} {s : ByteArray} {ls : List Int} (hb : b = 0 ∨ b = 1) (hL : LvOk b ls) {k : Nat} (hk : k ≤ (chs s).length) (hk2 : k ≤ ls.length) : (layL b (strL b s ls k)).length ≤ s.size + 1000 * (k + 1) := by
  have h1 := strL_lv (s := s) (by rcases hb with rfl | rfl <;> decide) hL hk2
  have h2 := layL_len (b := b) (by rcases hb with rfl | rfl <;> decide) (strL b s ls k) (fun g hg => (h1 g hg).2)
  have h3 := strL_len b s ls k
  have h5 : ((strL b s ls k).flatMap (·.1)).length ≤ s.size := by
    unfold strL
    split
    · simp
    · rw [stT_fst b s ls k hk]; exact seg_len s _
  have : 1000 * (strL b s ls k).length ≤ 1000 * (k + 1) := Nat.mul_le_mul_left _ h3
  omega
theorem Ins.lv {b : Int} {s : ByteArray} {ls : List Int} {f t : Nat} {l : Int} {is : Bool} (h : Ins b s ls f t l is) (hb : b ≤ 125) (hL : LvOk b ls) (ht : t ≤ ls.length) : b ≤ l ∧ l ≤ 125 := by
  rcases h with ⟨_, rfl, _⟩ | ⟨hlt, hst⟩
  · exact ⟨Int.le_refl _, hb⟩
  have := stT_lv (s := s) hb hL t ht (seg s f t, l) (by rw [hst]; unfold grL; simp)
  exact this
end Go.Proofs.YtaekdnfpgkfjkaaDoor
end
section
namespace Go.Proofs.YtaekdnfpgkfjkaaDoor
open Go.RowKit
attribute [local go_sem] Oper.semAt_some

theorem enc37 : txt (encB 8237) = ⟨#[226, 128, 173]⟩ := by decide
theorem enc38 : txt (encB 8238) = ⟨#[226, 128, 174]⟩ := by decide

set_option maxRecDepth 100000 in
set_option maxHeartbeats 8000000 in
theorem rLay_ok {w : World} {B B2 n c : Nat} {pv : Value} {rest : Int} {ch : List Chr} {s : ByteArray} {b : Int} {ls : List Int} {A : Option Addr} (hP : PropsIs w B pv rest ch) (hL : RdInts w B2 .i8 A ls) (hn : n = ls.length)
    (hs : s.size ≤ 549755813888) (hnl : n ≤ 1099511627776) :
    Calls Tryd.prog 17 #[pv, .string s, .int .i8 b, .slice A n c] w fun r w' => r = .returned (.tuple #[.string (txt (layF rest ch s b ls).1), .int .i64 (layF rest ch s b ls).2]) ∧ Aft w w' := by
  replace hP := hP.clip
  replace hL : RdInts w w.heap.size .i8 A ls := Reads.clip hL
  have CN : ∀ W, Aft w W → Calls Tryd.prog 13 #[pv] W fun e w' => e = .returned (.bool (knL rest ch)) ∧ Aft W w' := fun W hW => rKnows_ok (hP.below hW (.inl (Nat.le_refl _)))
  have CP : ∀ W, Aft w W → Calls Tryd.prog 45 #[pv, .string s] W fun e w' => ∃ v, e = .returned (.tuple #[v, .bool (plnL rest ch (rnL s))]) ∧ (plnL rest ch (rnL s) = true → Ints w' W.heap.size 22 .u8 v (clsL rest ch (rnL s))) ∧ Aft W w' := fun W hW => rPlain_ok (hP.below hW (.inl (Nat.le_refl _))) (by omega)
  have hrl : (rnL s).length = (chs s).length := rnL_len s
  have hcl := chs_len s
  obtain ⟨res, hres⟩ : ∃ x, layF rest ch s b ls = x := ⟨_, rfl⟩
  rw [hres]
  have HRES := Lib.hid hres
  clear hres
  obtain ⟨pA, pc, rfl, -, -⟩ := hP
  obtain ⟨pn, hpn⟩ : ∃ pn, ch.length = pn := ⟨_, rfl⟩
  rw [hpn] at CN CP ⊢
  clear hpn
  obtain ⟨W1, hW1⟩ : ∃ W1, w.alloc (.cells #[.int .u8 rest, .slice pA pn pc] 25) = W1 := ⟨_, rfl⟩
  have bW : Aft w W1 := by rw [← hW1]; exact (Aft.refl w).alloc _
  have X : Blk W1 w.heap.size 25 #[.int .u8 rest, .slice pA pn pc] := by rw [← hW1]; exact Blk.new w 25 _
  have CN0 := CN W1 bW
  obtain ⟨kn, hkn⟩ : ∃ x, knL rest ch = x := ⟨_, rfl⟩
  rw [hkn] at CN0
  have CR : ∀ W, Calls Tryd.prog 44 #[.string s] W fun r w' => ∃ v, r = .returned v ∧ Rw crC 4 w' W.heap.size 90 v (rcL s) ∧ Aft W w' := fun W => Chars_ok (by omega)
  have hrcl := rcL_len s
  obtain ⟨m, hm⟩ : ∃ m, (chs s).length = m := ⟨_, rfl⟩
  rw [hm] at hrl hcl hrcl
  have HM := Lib.hid hm
  have HRL := Lib.hid hrl
  have HRC := Lib.hid hrcl
  clear hm hrl CN hrcl
  rcases kn with _ | _
  · have hr0 : res = ([], 240) := by rw [← HRES.out]; unfold layF; rw [if_pos hkn]
    subst hr0
    clear CP
    go_enter Tryd.func17, Tryd.ntmps17
    go_upto_region 1 with (fail)
    clear hW1
    obtain ⟨x0, x1, xf, xl⟩ := X.c2
    go_wp2_with (go_at_call 13; refine CN0.mono ?_; rintro r1 w1 ⟨rfl, b1⟩)
    go_ret2
    exact ⟨rfl, bW.trans b1⟩
  by_cases hA : (b ≠ 0 ∧ b ≠ 1) ∨ m ≠ ls.length
  · have hr0 : res = ([], 2) := by rw [← HRES.out]; unfold layF; rw [if_neg (by rw [hkn]; simp), if_pos (by rw [HM.out]; exact hA)]
    subst hr0
    have hbad : ((b != 0 && b != 1) = true) ∨ ((b != 0 && b != 1) = false ∧ ((n : Int) != (m : Int)) = true) := by
      by_cases hb : b ≠ 0 ∧ b ≠ 1
      · left; simp [hb.1, hb.2]
      · right
        refine ⟨by simp; omega, ?_⟩
        have h1 := hA.resolve_left hb
        rw [← hn] at h1
        exact bne_iff_ne.2 (by omega)
    clear CP hA hn
    go_enter Tryd.func17, Tryd.ntmps17
    go_upto_region 1 with (fail)
    clear hW1
    obtain ⟨x0, x1, xf, xl⟩ := X.c2
    go_upto_region 4 with (first
      | (go_at_call 13; refine CN0.mono ?_; rintro r1 w1 ⟨rfl, b1⟩)
      | (go_at_call 44; refine (CR _).mono ?_; rintro r3 w3 ⟨v3, rfl, I3, b3⟩; obtain ⟨A3, cap3, rfl, -, -, -⟩ := I3.val))
    rw [HRC.out]
    rcases hb0 : (b != 0) with _ | _ <;> rcases hb1 : (b != 1) with _ | _ <;> rcases hmn : ((n : Int) != (m : Int)) with _ | _ <;> rw [hb0, hb1, hmn] at hbad <;> simp at hbad
    all_goals
      go_wp2
      go_ret2
      exact ⟨rfl, (bW.trans b1).trans b3⟩
  have hb : b = 0 ∨ b = 1 := by omega
  have hml : m = ls.length := by omega
  have hmn : n = m := by omega
  subst hmn
  have HML := Lib.hid hml
  have hE : ((n : Int) != (n : Int)) = false := bne_self_eq_false _
  have hbb : (b != 0 && b != 1) = false := by rcases hb with rfl | rfl <;> rfl
  clear hA
  by_cases hB : 1048576 < n
  · have hr0 : res = ([], 4) := by rw [← HRES.out]; unfold layF; rw [if_neg (by rw [hkn]; simp), if_neg (by rw [HM.out]; omega), if_pos (by rw [HM.out]; exact hB)]
    subst hr0
    clear CP hn hml
    clear HML
    go_enter Tryd.func17, Tryd.ntmps17
    go_upto_region 1 with (fail)
    clear hW1
    obtain ⟨x0, x1, xf, xl⟩ := X.c2
    go_upto_region 4 with (first
      | (go_at_call 13; refine CN0.mono ?_; rintro r1 w1 ⟨rfl, b1⟩)
      | (go_at_call 44; refine (CR _).mono ?_; rintro r3 w3 ⟨v3, rfl, I3, b3⟩; obtain ⟨A3, cap3, rfl, -, -, -⟩ := I3.val))
    rw [HRC.out]
    rcases hb with rfl | rfl
    all_goals
      go_wp2
      go_ret2
      exact ⟨rfl, (bW.trans b1).trans b3⟩
  have hcll : (clsL rest ch (rnL s)).length = n := by rw [clsL_len]; exact HRL.out
  obtain ⟨pl, hpl⟩ : ∃ x, plnL rest ch (rnL s) = x := ⟨_, rfl⟩
  have hres2 : res = if pl = false then ([], 241) else if hadO b (clsL rest ch (rnL s)) ls = false then ([], 242) else if 1048576 < (chs (txt (outL b s ls))).length then ([], 4) else (outL b s ls, 0) := by
    rw [← HRES.out]; unfold layF; rw [if_neg (by rw [hkn]; simp), if_neg (by rw [HM.out]; omega), if_neg (by rw [HM.out]; exact hB), hpl]
  rw [hpl] at CP
  have HR2 := Lib.hid hres2
  have HCL := Lib.hid hcll
  clear hres2 HRES hn hcll hml
  go_enter Tryd.func17, Tryd.ntmps17
  go_upto_region 1 with (fail)
  clear hW1
  obtain ⟨x0, x1, xf, xl⟩ := X.c2
  go_upto_region 4 with (first
    | (go_at_call 13; refine CN0.mono ?_; rintro r1 w1 ⟨rfl, b1⟩)
    | (go_at_call 44; refine (CR _).mono ?_; rintro r3 w3 ⟨v3, rfl, I3, b3⟩; obtain ⟨A3, cap3, rfl, hca3, hcb3, R3⟩ := I3.val))
  rw [HRC.out] at hca3 ⊢
  have b13 := (bW.trans b1).trans b3
  have hz1 := b13.size
  have hz3 := b3.size
  have X3 := X.aft (b1.trans b3)
  obtain ⟨y0, y1, yf, yl⟩ := X3.c2
  have CP3 := CP w3 b13
  have CH : ∀ W A4 cap4, Aft w W → RdInts W W.heap.size .u8 A4 (clsL rest ch (rnL s)) → Calls Tryd.prog 46 #[.slice A4 n cap4, .int .i8 b, .slice A n c] W fun e w' => e = .returned (.bool (hadO b (clsL rest ch (rnL s)) ls)) ∧ w' = W := fun W A4 cap4 hW hR =>
      Had_ok hR (hL.below hW (.inl (Nat.le_refl _))) HCL.out.symm HML.out rfl (by omega)
  have hbn : (b != 0) = false ∨ (b != 0) = true ∧ (b != 1) = false := by rcases hb with rfl | rfl <;> simp
  clear CP CR I3 CN0
  go_cut [39] from 27 to 39 (fun cv wx => cv = .bool false ∧ wx = w3)
  case first =>
    rcases hb with rfl | rfl
    all_goals
      go_wp2
      go_meet
      exact ⟨rfl, rfl⟩
  case rest =>
    obtain ⟨rfl, rfl⟩ := hcut
    go_upto_region 9 with (go_at_call 45; refine CP3.mono ?_; rintro r4 w4 ⟨v4, rfl, hI4, b4⟩)
    have b14 := b13.trans b4
    have hz4 := b4.size
    rcases pl with _ | _
    · have hr0 : res = ([], 241) := by rw [HR2.out, if_pos rfl]
      subst hr0
      go_wp2
      go_ret2
      exact ⟨rfl, b14⟩
    have I4 := hI4 rfl
    obtain ⟨A4, cap4, rfl, hca4, hcb4, R4⟩ := I4.val
    rw [HCL.out] at hca4 ⊢
    have CH4 := CH w4 A4 cap4 b14 R4
    have hr1 : res = if hadO b (clsL rest ch (rnL s)) ls = false then ([], 242) else if 1048576 < (chs (txt (outL b s ls))).length then ([], 4) else (outL b s ls, 0) := by rw [HR2.out, if_neg (by simp)]
    have hlv := lvOk_of (b := b) (cs := clsL rest ch (rnL s)) (ls := ls) (by have := HCL.out; have := HML.out; omega)
    obtain ⟨ho, hho⟩ : ∃ x, hadO b (clsL rest ch (rnL s)) ls = x := ⟨_, rfl⟩
    rw [hho] at hr1 hlv CH4
    have HR1 := Lib.hid hr1
    clear hr1 hho HR2 CH hI4 CP3 I4
    rcases ho with _ | _
    · have hr0 : res = ([], 242) := by rw [HR1.out, if_pos rfl]
      subst hr0
      go_wp2_with (go_at_call 46; refine CH4.mono ?_; rintro r5 w5 ⟨rfl, h5⟩; replace h5 := h5.symm; subst h5)
      go_ret2
      exact ⟨rfl, b14⟩
    have hlvk := hlv rfl
    have hol := fun k (h : k ≤ n) => outT_len (s := s) hb hlvk (k := k) (by have := HM.out; omega) (by have := HML.out; omega)
    have R34 := R3.below b4 (.inl (Nat.le_refl _))
    have L4 := hL.below b14 (.inl (Nat.le_refl _))
    clear hlv R3 R4
    go_upto_region 15 with (go_at_call 46; refine CH4.mono ?_; rintro r5 w5 ⟨rfl, h5⟩; replace h5 := h5.symm; subst h5)
    clear CH4
    go_loopg [13, 14] n (fun gk sv fv wr => ∃ f : Nat, f + gk = n ∧ fv = .int .i64 f ∧ sv = .string (txt (layL b (strL b s ls f))) ∧ (f < n → Brd b s ls f) ∧ wr = w4)
    case atStart => exact ⟨0, by omega, rfl, rfl, fun _ => .inl rfl, rfl⟩
    case round =>
      obtain ⟨f, hf, rfl, rfl, hB, hw⟩ := hrel
      subst hw
      by_cases hfn : f < n
      · have hBr := hB hfn
        have hol1 := hol f (by omega)
        clear hB
        obtain ⟨W0, hW0⟩ : ∃ W0, W0 = wr := ⟨_, rfl⟩
        subst hW0
        have HB := Lib.hid hBr
        go_upto_block 2 with (fail)
        go_cut [15, 16, 17] from 62 to 95 (fun lv iv tv wx => ∃ (t : Nat) (l : Int) (is : Bool), f < t ∧ t ≤ n ∧ lv = .int .i8 l ∧ iv = .bool is ∧ tv = .int .i64 t ∧ Ins b s ls f t l is ∧ (t < n → Brd b s ls t) ∧ wx = W0)
        case first =>
          go_wp2_with (fail)
          go_loopg [15, 16, 17] (n - f) (fun gk2 lv iv tv wq => ∃ (t : Nat) (l : Int) (is : Bool), t + gk2 = n ∧ f ≤ t ∧ lv = .int .i8 l ∧ iv = .bool is ∧ tv = .int .i64 t ∧ Ins b s ls f t l is ∧ wq = W0)
          case atStart => exact ⟨f, b, false, by omega, Nat.le_refl _, rfl, rfl, rfl, .inl ⟨rfl, rfl, rfl⟩, rfl⟩
          case round =>
            obtain ⟨t, l, is, ht, hft, rfl, rfl, rfl, hI, hw⟩ := hrel
            subst hw
            by_cases htn : t < n
            · have htl : t < ls.length := by have := HML.out; omega
              have htc : t < (chs s).length := by have := HM.out; omega
              obtain ⟨b2', off2, rfl, hb3, hb4, k2⟩ := L4.at_ htl
              have hgo := hI.go HB.out htc
              have hbr := hI.brd
              obtain ⟨x, hx⟩ : ∃ x, ls.getD t 0 = x := ⟨_, rfl⟩
              rw [hx] at k2 hgo hbr
              have HGO := Lib.hid hgo
              have HBR := Lib.hid hbr
              have HI := Lib.hid hI
              have HT := Lib.hid ht
              clear hgo hbr hI hx ht
              rcases hx1 : (x == -1) with _ | _
              · have hx1' : x ≠ -1 := by simpa using hx1
                have hx1n : (x != -1) = true := bne_iff_ne.2 hx1'
                rcases is with _ | _
                · have hnx := HGO.out (.inr (.inl rfl))
                  rw [if_neg hx1', if_neg hx1'] at hnx
                  have HNX := Lib.hid hnx
                  clear hnx HGO HBR
                  go_wp2
                  go_roundg (n - (t + 1))
                  case rel => exact ⟨t + 1, x, true, by have := HT.out; omega, by omega, rfl, rfl, by go_num, HNX.out, rfl⟩
                  case measure => have := HT.out; omega
                · rcases hxl : (x == l) with _ | _
                  · have hxl' : x ≠ l := by simpa using hxl
                    have hbd := HBR.out hx1' rfl hxl'
                    have HBD := Lib.hid hbd
                    clear hbd HGO HBR
                    go_wp2
                    go_meet
                    exact ⟨t, l, true, HBD.out.2, by omega, rfl, rfl, rfl, HI.out, fun _ => HBD.out.1, rfl⟩
                  · have hxl' : x = l := by simpa using hxl
                    have hnx := HGO.out (.inr (.inr hxl'))
                    rw [if_neg hx1', if_neg hx1'] at hnx
                    have HNX := Lib.hid hnx
                    clear hnx HGO HBR hx1'
                    subst hxl'
                    go_wp2
                    go_roundg (n - (t + 1))
                    case rel => exact ⟨t + 1, x, true, by have := HT.out; omega, by omega, rfl, rfl, by go_num, HNX.out, rfl⟩
                    case measure => have := HT.out; omega
              · have hx1' : x = -1 := by simpa using hx1
                subst hx1'
                have hnx := HGO.out (.inl rfl)
                rw [if_pos rfl, if_pos rfl] at hnx
                have HNX := Lib.hid hnx
                clear hnx HGO HBR
                go_wp2
                go_roundg (n - (t + 1))
                case rel => exact ⟨t + 1, l, is, by have := HT.out; omega, by omega, rfl, rfl, by go_num, HNX.out, rfl⟩
                case measure => have := HT.out; omega
            · have hte : t = n := by omega
              clear ht
              subst hte
              go_wp2
              go_meet
              exact ⟨t, l, is, by omega, Nat.le_refl _, rfl, rfl, rfl, hI, fun h => absurd h (Nat.lt_irrefl _), rfl⟩
        case rest =>
          obtain ⟨t, l, is, hft, htn, rfl, rfl, rfl, hI, hBt, hw⟩ := hcut
          subst hw
          have hs1 := hI.str hft
          have hlv := hI.lv (by omega) hlvk (by have := HML.out; omega)
          have hol2 := hol t htn
          have hse := seg_ext (s := s) (i := f) (j := t) (by omega) (by have := HM.out; omega)
          have hm1 := bAt_mono (s := s) (show f ≤ t by omega)
          have hm2 := bAt_le s t
          have hsl : (seg s f t).length ≤ s.size := by
            have e := congrArg ByteArray.size hse
            rw [txt_size, ByteArray.size_extract] at e
            omega
          have hnx : layL b (strL b s ls t) = layL b (strL b s ls f) ++ laidL b (seg s f t, l) := by rw [hs1, layL_one]
          obtain ⟨out, hout⟩ : ∃ x, layL b (strL b s ls f) = x := ⟨_, rfl⟩
          obtain ⟨d, hd⟩ : ∃ x, seg s f t = x := ⟨_, rfl⟩
          rw [hout] at hnx hol1 ⊢
          rw [hd] at hse hnx hsl
          have hfl : f < (chs s).length := by have := HM.out; omega
          have hbf := bAt_lt hfl
          obtain ⟨b3, off3, rfl, hb5, hb6, hc⟩ := R34.at_ encC (rcL_at hfl) (by omega)
          have c0 := hc 0 _ rfl
          rw [Nat.add_zero] at c0
          obtain ⟨bf, hbf2⟩ : ∃ x, bAt s f = x := ⟨_, rfl⟩
          obtain ⟨bt, hbt2⟩ : ∃ x, bAt s t = x := ⟨_, rfl⟩
          replace c0 : wc.cell? ⟨b3, off3 + f * 4, none⟩ = some (.int .i64 bf) := by rw [← hbf2, hbf]; exact c0
          have hct : t < n → wc.cell? ⟨b3, off3 + t * 4, none⟩ = some (.int .i64 bt) := fun h => by
            have htl : t < (chs s).length := by have := HM.out; omega
            obtain ⟨b3', off3', e, _, _, hc'⟩ := R34.at_ encC (rcL_at htl) (by omega)
            injection e with e
            injection e with e1 e2
            subst e1 e2
            have := hc' 0 _ rfl
            rw [Nat.add_zero] at this
            rw [← hbt2, bAt_lt htl]; exact this
          have hbe : t = n → bt = s.size := fun h => by rw [← hbt2]; exact if_neg (by have := HM.out; omega)
          rw [hbf2, hbt2] at hse hm1
          rw [hbt2] at hm2
          have HSE := Lib.hid hse
          have HNX := Lib.hid hnx
          have HBT := Lib.hid hBt
          clear hse hnx hBt hs1 hI hout hd hbf hc hbf2 hbt2 hfl
          have hz1 : (txt out).size ≤ 2199023255552 := by rw [txt_size]; omega
          have hz2 : (txt d).size ≤ 1099511627776 := by rw [txt_size]; omega
          go_upto_if 101 with (fail)
          go_cut [18] from 98 to 106 (fun ev wx => ev = .int .i64 bt ∧ wx = wc)
          case first =>
            by_cases h : t < n
            · have c1 := hct h
              go_wp2
              go_meet
              exact ⟨rfl, rfl⟩
            · have h1 : t = n := by omega
              have h2 := hbe h1
              have hE : decide ((t : Int) < (n : Int)) = false := decide_eq_false (by omega)
              clear HBT hct hbe
              go_wp2
              go_meet
              exact ⟨by rw [h2], rfl⟩
          case rest =>
            obtain ⟨rfl, hw⟩ := hcut
            subst hw
            have hbt3 : bt ≤ s.size := hm2
            go_upto_region 28 with (fail)
            rw [HSE.out]
            clear hct hbe c0 HSE
            rcases hlb : (l == b) with _ | _
            · have hlb' : l ≠ b := by simpa using hlb
              have hlid : laidL b (d, l) = ahT b (l - b).toNat ++ d ++ bhT (l - b).toNat := if_neg hlb'
              obtain ⟨m, hm⟩ : ∃ m, (l - b).toNat = m := ⟨_, rfl⟩
              have hlm : l = b + m := by omega
              rw [hm] at hlid
              rw [hlid] at HNX
              clear hm hlid
              subst hlm
              have hm1000 : m ≤ 125 := by omega
              have CRP := repeat_ok (w := wc) (p := encB 8236) (n := m) (encB_len _) (by omega)
              rw [enc36, ← bhT_rep] at CRP
              go_upto_region 34 with (fail)
              go_loopg [13, 21] m (fun gk3 sv kv wq => ∃ i : Nat, i + gk3 = m ∧ kv = .int .i8 (b + 1 + i) ∧ sv = .string (txt (out ++ ahT b i)) ∧ wq = wc)
              case atStart => exact ⟨0, by omega, by go_num, by simp [ahT], rfl⟩
              case round =>
                obtain ⟨i, hi, rfl, rfl, hw⟩ := hrel
                subst hw
                have hal := ahT_len b i
                have hz3 : (txt (out ++ ahT b i)).size ≤ 2199023256552 := by rw [txt_size, List.length_append]; rw [txt_size] at hz1; omega
                by_cases him : i < m
                · have hn8 := txt_cat (out ++ ahT b i) (if (b + 1 + (i : Int)) % 2 = 1 then encB 8238 else encB 8237)
                  have hn9 : out ++ ahT b i ++ (if (b + 1 + (i : Int)) % 2 = 1 then encB 8238 else encB 8237) = out ++ ahT b (i + 1) := by rw [List.append_assoc]; rfl
                  rw [hn9] at hn8
                  obtain ⟨k, hk⟩ : ∃ k : Int, b + 1 + (i : Int) = k := ⟨_, rfl⟩
                  have hk2 : b + 1 + ((i + 1 : Nat) : Int) = k + 1 := by omega
                  rw [hk] at hn8 ⊢
                  obtain ⟨e, he⟩ : ∃ e, k % 2 = e := ⟨_, rfl⟩
                  have he2 : e = 0 ∨ e = 1 := by omega
                  have htm : Int.tmod k 2 = e := by rw [Int.tmod_eq_emod_of_nonneg (by omega)]; exact he
                  have hkr : -128 ≤ k ∧ k ≤ 126 := by omega
                  have hkl : k ≤ b + m := by omega
                  rw [he] at hn8
                  have HK := Lib.hid hk2
                  have HI := Lib.hid hi
                  clear hn9 hk he hk2 hi
                  rcases he2 with rfl | rfl
                  · rw [if_neg (by decide), enc37] at hn8
                    have HN8 := Lib.hid hn8
                    clear hn8
                    go_wp2
                    rw [HN8.out]
                    go_roundg (m - (i + 1))
                    case rel => exact ⟨i + 1, by have := HI.out; omega, by rw [HK.out], rfl, rfl⟩
                    case measure => have := HI.out; omega
                  · rw [if_pos rfl, enc38] at hn8
                    have HN8 := Lib.hid hn8
                    clear hn8
                    go_wp2
                    rw [HN8.out]
                    go_roundg (m - (i + 1))
                    case rel => exact ⟨i + 1, by have := HI.out; omega, by rw [HK.out], rfl, rfl⟩
                    case measure => have := HI.out; omega
                · have hie : i = m := by omega
                  clear hi
                  subst hie
                  have hbl := bhT_len i
                  have hz5 : (txt (bhT i)).size ≤ 500 := by rw [txt_size]; omega
                  have hn8 : txt (out ++ ahT b i) ++ (txt d ++ txt (bhT i)) = txt (layL b (strL b s ls t)) := by rw [HNX.out, txt_cat, txt_cat]; simp
                  have HN8 := Lib.hid hn8
                  have hsb : b + (i : Int) - b = i := by omega
                  clear hn8 HNX
                  go_wp2_with (go_at_call 47; refine CRP.mono ?_; rintro r5 w5 ⟨rfl, h5⟩; replace h5 := h5.symm; subst h5)
                  rw [HN8.out]
                  go_roundg (n - t)
                  case rel => exact ⟨t, by omega, rfl, rfl, HBT.out, rfl⟩
                  case measure => omega
            · have hlb' : l = b := by simpa using hlb
              subst hlb'
              have hlid : laidL l (d, l) = encB (8206 + l) ++ d ++ encB (8206 + l) := if_pos rfl
              have hn8 : txt out ++ (txt (encB (8206 + l)) ++ txt d ++ txt (encB (8206 + l))) = txt (layL l (strL l s ls t)) := by rw [HNX.out, hlid, txt_cat, txt_cat, txt_cat]
              clear hlid HNX
              rcases hb with rfl | rfl
              · rw [show txt (encB (8206 + 0)) = ⟨#[226, 128, 142]⟩ by decide] at hn8
                have HN8 := Lib.hid hn8
                clear hn8
                go_wp2
                rw [HN8.out]
                go_roundg (n - t)
                case rel => exact ⟨t, by omega, rfl, rfl, HBT.out, rfl⟩
                case measure => omega
              · rw [show txt (encB (8206 + 1)) = ⟨#[226, 128, 143]⟩ by decide] at hn8
                have HN8 := Lib.hid hn8
                clear hn8
                go_wp2
                rw [HN8.out]
                go_roundg (n - t)
                case rel => exact ⟨t, by omega, rfl, rfl, HBT.out, rfl⟩
                case measure => omega
      · have hfe : f = n := by omega
        clear hf hB
        subst hfe
        have hol1 := hol f (Nat.le_refl _)
        have hou : layL b (strL b s ls f) = outL b s ls := by unfold outL; rw [HM.out]
        rw [hou] at hol1 ⊢
        obtain ⟨o, ho⟩ : ∃ o, outL b s ls = o := ⟨_, rfl⟩
        rw [ho] at hol1 HR1 ⊢
        have htz : (txt o).size ≤ 1099511627776 := by rw [txt_size]; omega
        have CO := Chars_ok (w := wr) htz
        have hrl := rcL_len (txt o)
        obtain ⟨cnt, hcnt⟩ : ∃ x, (chs (txt o)).length = x := ⟨_, rfl⟩
        rw [hcnt] at HR1 hrl
        have HRO := Lib.hid hrl
        clear hcnt ho hou hrl
        have hr2 : res = if 1048576 < cnt then ([], 4) else (o, 0) := by rw [HR1.out, if_neg (by simp)]
        have HR3 := Lib.hid hr2
        clear HR1 hr2
        go_upto_region 41 with (fail)
        by_cases hcb : 1048576 < cnt
        · have hr0 : res = ([], 4) := by rw [HR3.out, if_pos hcb]
          subst hr0
          go_wp2_with (go_at_call 44; refine CO.mono ?_; rintro r5 w5 ⟨v5, rfl, I5, b5⟩; obtain ⟨A5, cap5, rfl, hca5, hcb5, -⟩ := I5.val; rw [HRO.out] at hca5 ⊢)
          go_ret2
          exact ⟨rfl, b14.trans b5⟩
        · have hr0 : res = (o, 0) := by rw [HR3.out, if_neg hcb]
          subst hr0
          go_wp2_with (go_at_call 44; refine CO.mono ?_; rintro r5 w5 ⟨v5, rfl, I5, b5⟩; obtain ⟨A5, cap5, rfl, hca5, hcb5, -⟩ := I5.val; rw [HRO.out] at hca5 ⊢)
          go_ret2
          exact ⟨rfl, b14.trans b5⟩
end Go.Proofs.YtaekdnfpgkfjkaaDoor
end
section
namespace Go.Proofs.YtaekdnfpgkfjkaaDoor
open Go.RowKit
attribute [local go_sem] Oper.semAt_some

theorem eiL : ElemI Tryd.prog 33 32 .i8 1 := ElemI.mk' Tryd.underlying33 (by kernel_rfl)
set_option maxRecDepth 100000 in
set_option maxHeartbeats 4000000 in
theorem lays_walk {w : World} {B B2 n c : Nat} {pv : Value} {rest b : Int} {ch : List Chr} {s : ByteArray} {A : Option Addr} {ls : List Int} (hT : Lib.Utf8Tabs 0 1 w) (h2 : 2 ≤ w.heap.size) (hP : PropsIs w B pv rest ch) (hL : RdInts w B2 .i8 A ls) (hn : n = ls.length)
    (hs : s.size ≤ 68719476736) (hnl : n ≤ 68719476736) :
    Calls Tryd.prog 4 #[pv, .string s, .int .i8 b, .slice A n c] w fun e w' => e = .returned (.bool true) ∧ Aft w w' := by
  replace hP := hP.clip
  replace hL : RdInts w w.heap.size .i8 A ls := Reads.clip hL
  have HN := Lib.hid hn
  have CM : ∀ W, Aft w W → Calls Tryd.prog 10 #[pv] W fun e w' => e = .returned (.bool (mayP rest ch)) ∧ Aft W w' := fun W hW => May_ok (hP.below hW (.inl (Nat.le_refl _)))
  have CA : ∀ W, Aft w W → Calls Tryd.prog 11 #[] W fun e w' => e = .returned (.bool true) ∧ Aft W w' := fun W hW => awake_ok (tabs_aft hT hW) (by have := hW.size; omega)
  have CL : ∀ W A' c', Aft w W → RdInts W W.heap.size .i8 A' ls → Calls Tryd.prog 16 #[.iface 25 pv, .string s, .int .i8 b, .slice A' n c'] W fun e w' => e = .returned (.tuple #[.string (txt (layF rest ch s b ls).1), .int .i64 (layF rest ch s b ls).2]) ∧ Aft W w' := fun W A' c' hW hR =>
    Lay_ok (tabs_aft hT hW) (by have := hW.size; omega) (hP.below hW (.inl (Nat.le_refl _))) hR HN.out (by omega) (by omega)
  have CR : ∀ W, Aft w W → Calls Tryd.prog 17 #[pv, .string s, .int .i8 b, .slice A n c] W fun e w' => e = .returned (.tuple #[.string (txt (layF rest ch s b ls).1), .int .i64 (layF rest ch s b ls).2]) ∧ Aft W w' := fun W hW =>
    rLay_ok (hP.below hW (.inl (Nat.le_refl _))) (hL.below hW (.inl (Nat.le_refl _))) HN.out (by omega) (by omega)
  obtain ⟨t, ht⟩ : ∃ t, txt (layF rest ch s b ls).1 = t := ⟨_, rfl⟩
  obtain ⟨e, he⟩ : ∃ e, (layF rest ch s b ls).2 = e := ⟨_, rfl⟩
  rw [ht, he] at CL CR
  clear ht he
  obtain ⟨pA, pc, rfl, -, -⟩ := hP
  obtain ⟨pn, hpn⟩ : ∃ pn, ch.length = pn := ⟨_, rfl⟩
  rw [hpn] at CM CL CR ⊢
  clear hpn hn
  have CV : ∀ W v A' c' r, ((v = Value.iface 25 (.agg #[.int .u8 rest, .slice pA pn pc]) ∧ r = Value.tuple #[.string t, .int .i64 e]) ∨ (v = .nilIface ∧ r = Value.tuple #[.string ⟨#[]⟩, .int .i64 1])) → Aft w W → RdInts W W.heap.size .i8 A' ls → Calls Tryd.prog 16 #[v, .string s, .int .i8 b, .slice A' n c'] W fun e w' => e = .returned r ∧ Aft W w' := fun W v A' c' r h hW hR => by
    rcases h with ⟨rfl, rfl⟩ | ⟨rfl, rfl⟩
    · exact CL W A' c' hW hR
    · exact Lay_nil.mono fun _ _ h => ⟨h.1, by rw [h.2]; exact Aft.refl _⟩
  clear CL
  obtain ⟨W1, hW1⟩ : ∃ W1, w.alloc (.cells #[.int .u8 rest, .slice pA pn pc] 25) = W1 := ⟨_, rfl⟩
  have bW : Aft w W1 := by rw [← hW1]; exact (Aft.refl w).alloc _
  have X : Blk W1 w.heap.size 25 #[.int .u8 rest, .slice pA pn pc] := by rw [← hW1]; exact Blk.new w 25 _
  have CM0 := CM W1 bW
  obtain ⟨my, hmy⟩ : ∃ x, mayP rest ch = x := ⟨_, rfl⟩
  rw [hmy] at CM0
  clear hmy CM
  go_enter Tryd.func4, Tryd.ntmps4
  go_upto_region 1 with (fail)
  clear hW1
  obtain ⟨x0, x1, xf, xl⟩ := X.c2
  rcases my with _ | _
  · go_wp2_with (first
      | (go_at_call 10; refine CM0.mono ?_; rintro r1 w1 ⟨rfl, b1⟩; have a1 := bW.trans b1; have CA1 := CA _ a1)
      | (go_at_call 11; refine CA1.mono ?_; rintro r2 w2 ⟨rfl, b2⟩))
    go_ret
    exact ⟨rfl, a1.trans b2⟩
  go_upto_region 4 with (go_at_call 10; refine CM0.mono ?_; rintro r1 w1 ⟨rfl, b1⟩)
  have a1 := bW.trans b1
  have X1 := X.aft b1
  have hz1 := a1.size
  have L1 := hL.below a1 (.inl (Nat.le_refl _))
  have hl1 := X1.lt
  go_wp2_with (at_builtin; go_must (refine wpList_appIs (base := w1.heap.size) eiL rfl rfl rfl (Ints.nil _ _ _ _) HN.out rfl L1 ?_ ?_ ?_ ?_))
  · have := HN.out; unfold maxLen; simp; omega
  · have := HN.out; simp; omega
  · exact Nat.le_refl _
  intro v2 w2 I2 g2 hg2
  have a2 : Aft w1 w2 := (Aft.refl w1).grown g2 (fun j e => by cases e)
  have hz2 := a2.size
  clear CM0 L1 g2 hg2
  go_wp2_with (at_builtin; go_must (refine wpList_appI eiL rfl rfl rfl (I2.alloc _) rfl (Blk.new _ _ _) ?_ ?_ ?_ ?_))
  · have := HN.out; unfold maxLen; omega
  · have := HN.out; omega
  · rw [World.size_alloc]; omega
  intro g cap w3 I3 g3 hg3
  have a3 : Aft w1 w3 := (a2.alloc _).grown g3 (fun j e => (I2.lt j e).1)
  have hz3 := a3.size
  rw [← HN.out] at I3 ⊢
  have J3 := Ints.cut0 I3 n (by rw [List.length_append, ← HN.out]; simp)
  rw [List.take_left' HN.out.symm] at J3
  have hat3 := I3.at_
  clear I2 g3 hg3
  have hcap : n + 1 ≤ cap := by
    have := hat3.2.1
    rw [List.length_append, ← HN.out] at this
    simpa using this
  have hcmax := hat3.2.2.1
  have hgB := hat3.2.2.2.1
  have c77 : w3.cell? ⟨g, n, none⟩ = some (.int .i8 77) := by
    rw [hat3.2.2.2.2.2.2 n (by rw [List.length_append, ← HN.out]; simp)]
    congr 2
    rw [List.getD_eq_getElem?_getD, List.getElem?_append_right (by rw [← HN.out]; exact Nat.le_refl _), HN.out, Nat.sub_self]; rfl
  have hgl : g < w3.heap.size := hat3.2.2.2.2.1
  have X3 := X1.aft a3
  obtain ⟨y0, y1, yf, yl⟩ := X3.c2
  have a13 := a1.trans a3
  clear hat3 I3
  have R3 := J3.rd
  go_upto_region 9 with (first
    | (go_at_call 16; refine (CV _ _ _ _ _ (by first | exact .inl ⟨rfl, rfl⟩ | exact .inr ⟨rfl, rfl⟩) (by assumption) (by assumption)).mono ?_; rintro r4 w4 ⟨rfl, b4⟩; first
        | (have b6 := b4; have q := a5)
        | (obtain ⟨y0, y1, yf, yl⟩ := (X3.aft b4).c2; have a4 := a13.trans b4))
    | (go_at_call 17; refine (CR _ (by assumption)).mono ?_; rintro r5 w5 ⟨rfl, b5⟩; have a5 := a4.trans b5; have J5 := (J3.aft b4).aft b5; have R5 := J5.rd; have b35 := b4.trans b5))
  have a6 := a5.trans b6
  have R6 := R5.aft b6
  have L6 := hL.below a6 (.inl (Nat.le_refl _))
  have c6 : w4.cell? ⟨g, n, none⟩ = some (.int .i8 77) := by rw [(b35.trans b6).cell (p := ⟨g, n, none⟩) hgl]; exact c77
  have CA6 := CA _ a6
  have hgl6 : g < w4.heap.size := Nat.lt_of_lt_of_le hgl (b35.trans b6).size
  have CB := CA
  clear CA CV CR R5 J5 J3 R3 y0 y1
  go_upto_region 10 with (fail)
  go_loopg [17] n (fun gk iv wr => ∃ k d : Nat, k + gk = n ∧ iv = .int .i64 k ∧ wr = w4.drewN d)
  case atStart => exact ⟨0, 0, by omega, rfl, rfl⟩
  case round =>
    obtain ⟨k, d, hk, rfl, rfl⟩ := hrel
    by_cases hkn : k < n
    · have hkl : k < ls.length := by have := HN.out; omega
      obtain ⟨b1', o1, e1, hb1, hb2, k1⟩ := R6.at_ hkl
      injection e1 with e1
      injection e1 with e1 e2
      subst e1 e2
      rw [Nat.zero_add] at k1
      obtain ⟨b2', o2, rfl, hb3, hb4, k2⟩ := L6.at_ hkl
      obtain ⟨x, hx⟩ : ∃ x, ls.getD k 0 = x := ⟨_, rfl⟩
      rw [hx] at k1 k2
      have hE : (x != x) = false := bne_self_eq_false x
      clear hx
      go_wp2
      go_quiet (fail)
      go_wp2
      go_roundg (n - (k + 1))
      case rel => exact ⟨k + 1, _, by omega, by go_num, by first | rfl | exact World.drewN_drewN _ _ _⟩
      case measure => omega
    · have hke : k = n := by omega
      clear hk
      subst hke
      have c7 : (w4.drewN d).cell? ⟨g, k, none⟩ = some (.int .i8 77) := c6
      have hgl7 : g < (w4.drewN d).heap.size := hgl6
      have a7 : Aft w (w4.drewN d) := a6.trans ⟨rfl, rfl, rfl, Nat.le_refl _, fun _ _ => rfl⟩
      have CA7 := CB _ a7
      clear R6 L6 CA6 CB
      go_wp2_with (go_at_call 11; refine CA7.mono ?_; rintro r9 w9 ⟨rfl, b9⟩)
      go_ret
      exact ⟨rfl, a7.trans b9⟩
end Go.Proofs.YtaekdnfpgkfjkaaDoor
end
section
namespace Go.Proofs.YtaekdnfpgkfjkaaDoor
open Go.RowKit

theorem rd_of_row {k : IntKind} {w : World} {a : Option Addr} {len cap : Nat} {zs : List Int} (h : (a = none ∧ len = 0 ∧ cap = 0 ∧ zs = []) ∨
    ∃ x, a = some x ∧ len ≤ cap ∧ cap ≤ maxLen ∧ zs.length = cap ∧ (∀ i, i < zs.length → w.cell? (x.add i) = some (.int k (zs.getD i 0))) ∧ ∀ n ∈ zs, (Lit.int k n).wf = true) :
    ∃ l : List Int, l.length = len ∧ len ≤ cap ∧ cap ≤ maxLen ∧ RdInts w w.heap.size k a l ∧ ∀ n ∈ l, (Lit.int k n).wf = true := by
  rcases h with ⟨rfl, rfl, rfl, rfl⟩ | ⟨x, rfl, h1, h2, h3, h4, h5⟩
  · exact ⟨[], rfl, by simp, by simp, Reads.none_, by simp⟩
  · refine ⟨zs.take len, by simp; omega, h1, h2, ?_, fun n hn => h5 n (List.mem_of_mem_take hn)⟩
    rcases Nat.eq_zero_or_pos len with h0 | h0
    · subst h0
      exact ⟨by simp, fun h => by simp at h⟩
    · obtain ⟨b, off, rfl, hc⟩ := ints_at h4 (by omega)
      refine ⟨by simp, fun _ => ⟨b, off, rfl, ?_, ?_, fun j u hu => ?_⟩⟩
      · exact World.block_lt_of_cell? _ _ (hc 0 (by omega))
      · exact World.block_lt_of_cell? _ _ (hc 0 (by omega))
      · have hj : j < len := by
          have := (List.getElem?_eq_some_iff.1 hu).1
          simp at this
          omega
        rw [hc j (by omega)]
        rw [List.getElem?_map, List.getElem?_take, if_pos hj] at hu
        simp only [Option.map_eq_some_iff] at hu
        obtain ⟨y, hy, rfl⟩ := hu
        simp [List.getD, hy]
theorem RdInts.take {w : World} {B : Nat} {k : IntKind} {A : Option Addr} {l : List Int} (h : RdInts w B k A l) (n : Nat) : RdInts w B k A (l.take n) := by
  refine ⟨by simp, fun hn => ?_⟩
  simp only [List.length_take] at hn
  obtain ⟨b, off, hA, hb, hs, hc⟩ := h.2 (by omega)
  refine ⟨b, off, hA, hb, hs, fun j u hu => hc j u ?_⟩
  rw [List.getElem?_map, List.getElem?_take] at hu
  split at hu
  · rw [List.getElem?_map]; exact hu
  · simp at hu
end Go.Proofs.YtaekdnfpgkfjkaaDoor
end
section
namespace Go.Proofs.YtaekdnfpgkfjkaaDoor
open Go.Joins Go.ChangeShapes Go.WideShapes Go.RowKit Go.Deep

section
variable {H : Type} {enc : TypeId × Value → H} {P : Program} {w : World} {base : Nat} {spare : Nat → Bool} {held : Bool}
/-- A slice of integers among the fields. -/
theorem open_row {t e : TypeId} {k : IntKind} {fuel : Nat} {v : Value} {x : DataW H × List MemPlace} {b : Nat} (ht : P.underlying t = some (.slice e)) (he : P.underlying e = some (.int k)) (hC : P.cellsOf e = 1) (hb : P.bytesOf e = b)
    (h : DataW.trod enc P w 0 (fun _ => true) held fuel t [v] = some x) (hw : ∀ n ∈ x.1.weights P t, n ≤ reachBytes) :
    ∃ A n c l, v = .slice A n c ∧ n = l.length ∧ RdInts w w.heap.size k A l ∧ n * b ≤ reachBytes ∧ ∀ z ∈ l, (Lit.int k z).wf = true := by
  rcases open_ints ht he hC h with ⟨hcs, _⟩ | ⟨a, l, c, zs, hcs, _, hl, hm, hz, hx, hcell, hwz⟩
  · simp only [List.cons.injEq, and_true] at hcs
    subst hcs
    exact ⟨none, 0, 0, [], rfl, rfl, Reads.none_, by simp, by simp⟩
  · simp only [List.cons.injEq, and_true] at hcs
    subst hcs
    simp only [if_true] at hz
    obtain ⟨l', h1, h2, h3, h4, h5⟩ := rd_of_row (k := k) (w := w) (a := some a) (len := l) (cap := c) (zs := zs) (.inr ⟨a, rfl, hl, hm, hz, hcell, hwz⟩)
    refine ⟨some a, l, c, l', rfl, h1.symm, h4, ?_, h5⟩
    subst hx
    have := hw _ (by simp only [DataW.weights, ht]; exact List.mem_cons_self)
    rw [hb] at this
    refine Nat.le_trans (Nat.mul_le_mul_right b ?_) this
    simp [lits]
    omega
/-- Cells that lie apart from one another by so many are a row of records. -/
theorem rd_of_recs {α : Type} {c : α → List Value} {sz : Nat} (E : Enc c sz) (hs : 0 < sz) {a : Addr} {L : List α} (h : ∀ i x, L[i]? = some x → w.cells? 0 (a.add (i * sz)) sz = some (c x)) : RdR c sz w w.heap.size (some a) L := by
  refine ⟨fm_len E L, fun h0 => ?_⟩
  obtain ⟨b, off, spot⟩ := a
  obtain ⟨y0, hx0⟩ : ∃ y0, L[0]? = some y0 := ⟨_, List.getElem?_eq_getElem h0⟩
  obtain ⟨u, hu⟩ : ∃ u, (c y0)[0]? = some u := ⟨_, List.getElem?_eq_getElem (by rw [E.len]; exact hs)⟩
  have h1 := (World.cells?_some (h 0 _ hx0)).2.2 0 hs
  rw [hu] at h1
  have hspot : spot = none := by simpa [Addr.add] using World.cell?_spot h1
  subst hspot
  have hc : ∀ j u, (L.flatMap c)[j]? = some u → w.cell? ⟨b, off + j, none⟩ = some u := by
    intro j u hu
    have hj : j < L.length * sz := by rw [← fm_len E L]; exact (List.getElem?_eq_some_iff.1 hu).1
    have hi : j / sz < L.length := (Nat.div_lt_iff_lt_mul hs).2 hj
    have hm : j % sz < sz := Nat.mod_lt _ hs
    have hx : L[j / sz]? = some L[j / sz] := List.getElem?_eq_getElem hi
    have hg := fm_get E L (j / sz) (j % sz) _ hx hm
    have e : j / sz * sz + j % sz = j := Nat.div_add_mod' j sz
    rw [e, hu] at hg
    have := (World.cells?_some (h _ _ hx)).2.2 (j % sz) hm
    rw [← hg, Go.WideShapes.add_plain, Go.WideShapes.add_plain, Nat.add_assoc, e] at this
    exact this
  rw [Go.WideShapes.add_plain, Go.WideShapes.add_plain] at h1
  exact ⟨b, off, rfl, World.block_lt_of_cell? _ _ h1, World.block_lt_of_cell? _ _ h1, hc⟩
/-- One field of a struct. -/
theorem trod_fld {fs : Array Field} {n k o : Nat} {t : TypeId} {cs : List Value} {xs : List (DataW H × List MemPlace)} (hg : ∀ (i : Nat) (f : Field), fs[i]? = some f → DataW.trod enc P w base spare held n f.type ((cs.drop f.offset).take (P.cellsOf f.type)) = xs[i]?)
    (i : Nat) {f : Field} (hf : fs[i]? = some f) (ht : f.type = t) (ho : f.offset = o) (hC : P.cellsOf t = k) : DataW.trod enc P w base spare held n t ((cs.drop o).take k) = xs[i]? := by
  subst ht ho hC
  exact hg i f hf
end

set_option maxRecDepth 100000 in
theorem open_chr {H : Type} {enc : TypeId × Value → H} {W : World} {fuel : Nat} {cs : List Value} {x : DataW H × List MemPlace} (h : DataW.trod enc Tryd.prog W 0 (fun _ => true) true fuel 53 cs = some x) : ∃ c : Chr, cs = chC c := by
  obtain ⟨xs, n, _, hx, hlen, hl, hg⟩ := DataW.trod_struct Tryd.underlying53 h
  have h7 : cs.length = 7 := hlen.trans (by kernel_rfl)
  match cs, h7, xs, hl with
  | [c0, c1, c2, c3, c4, c5, c6], _, [y0, y1, y2, y3, y4, y5, y6], _ =>
    obtain ⟨z0, e0, _⟩ := DataW.trod_int Tryd.underlying21 (trod_fld hg 0 rfl rfl rfl (o := 0) (k := 1) (by kernel_rfl))
    obtain ⟨z1, e1, _⟩ := DataW.trod_int Tryd.underlying22 (trod_fld hg 1 rfl rfl rfl (o := 1) (k := 1) (by kernel_rfl))
    obtain ⟨z2, e2, _⟩ := DataW.trod_int Tryd.underlying21 (trod_fld hg 2 rfl rfl rfl (o := 2) (k := 1) (by kernel_rfl))
    obtain ⟨z3, e3, _⟩ := DataW.trod_int Tryd.underlying51 (trod_fld hg 3 rfl rfl rfl (o := 3) (k := 1) (by kernel_rfl))
    obtain ⟨z4, e4, _⟩ := DataW.trod_int Tryd.underlying21 (trod_fld hg 4 rfl rfl rfl (o := 4) (k := 1) (by kernel_rfl))
    obtain ⟨z5, e5, _⟩ := DataW.trod_int Tryd.underlying21 (trod_fld hg 5 rfl rfl rfl (o := 5) (k := 1) (by kernel_rfl))
    obtain ⟨z6, e6, _⟩ := DataW.trod_bool Tryd.underlying4 (trod_fld hg 6 rfl rfl rfl (o := 6) (k := 1) (by kernel_rfl))
    simp only [List.drop_zero, List.drop_succ_cons, List.take_succ_cons, List.take_zero, List.cons.injEq, and_true] at e0 e1 e2 e3 e4 e5 e6
    subst e0 e1 e2 e3 e4 e5 e6
    exact ⟨⟨z0, z1, z2, z3, z4, z5, z6⟩, rfl⟩

/-- The characters of props. -/
theorem open_chars {H : Type} {enc : TypeId × Value → H} {W : World} {fuel : Nat} {v : Value} {x : DataW H × List MemPlace} (h : DataW.trod enc Tryd.prog W 0 (fun _ => true) true fuel 23 [v] = some x) (hw : ∀ n ∈ x.1.weights Tryd.prog 23, n ≤ reachBytes) :
    ∃ A n c L, v = .slice A n c ∧ n = L.length ∧ RdR chC 7 W W.heap.size A L ∧ n * 28 ≤ reachBytes := by
  rcases open_slice Tryd.underlying23 h with ⟨hcs, _⟩ | ⟨a, len, cap, m, n, D, Pl, hcs, _, hl, hm, hmm, hx, hcell⟩
  · simp only [List.cons.injEq, and_true] at hcs
    subst hcs
    exact ⟨none, 0, 0, [], rfl, rfl, Reads.none_, by simp⟩
  · simp only [List.cons.injEq, and_true] at hcs
    subst hcs
    simp only [if_true] at hmm
    subst hmm
    have hC : Tryd.prog.cellsOf 53 = 7 := by kernel_rfl
    have hch : ∀ i, ∃ c : Chr, i < m → W.cells? 0 (a.add (i * 7)) 7 = some (chC c) := by
      intro i
      by_cases hi : i < m
      · obtain ⟨cs', h1, h2⟩ := hcell i hi
        obtain ⟨c, rfl⟩ := open_chr h2
        rw [hC] at h1
        exact ⟨c, fun _ => h1⟩
      · exact ⟨Chr.zero, fun h => absurd h hi⟩
    obtain ⟨X, hX⟩ := Classical.axiomOfChoice hch
    refine ⟨some a, len, m, (List.range len).map X, rfl, by simp, rd_of_recs encK (by omega) (fun i x hx => ?_), ?_⟩
    · rw [List.getElem?_map] at hx
      obtain ⟨j, hj, rfl⟩ := Option.map_eq_some_iff.1 hx
      obtain ⟨hj1, hj2⟩ := List.getElem?_eq_some_iff.1 hj
      rw [List.getElem_range] at hj2
      subst hj2
      simp only [List.length_range] at hj1
      exact hX i (by omega)
    · subst hx
      have := hw _ (by simp only [DataW.weights, Tryd.underlying23]; exact List.mem_cons_self)
      rw [show Tryd.prog.bytesOf 53 = 28 by kernel_rfl] at this
      refine Nat.le_trans (Nat.mul_le_mul_right 28 ?_) this
      simp


set_option maxRecDepth 100000 in
theorem open_props {H : Type} {enc : TypeId × Value → H} {W : World} {b0 : Nat} {r : Reach} {v : Value} {d : DataW H} {p : List MemPlace} (hv : Value.okWide Tryd.prog W r b0 25 v) (h : DataW.Trod enc Tryd.prog W 0 (fun _ => true) true 25 v d p)
    (hw : ∀ n ∈ d.weights Tryd.prog 25, n ≤ reachBytes) : ∃ rest ch, PropsIs W W.heap.size v rest ch ∧ ch.length * 28 ≤ reachBytes := by
  obtain ⟨cs, rfl, hsz⟩ := okWide_struct Tryd.underlying25 hv
  have h2 : cs.size = 2 := hsz.trans (by kernel_rfl)
  obtain ⟨l⟩ := cs
  match l, h2 with
  | [c0, c1], _ =>
    obtain ⟨fuel, hf⟩ := h
    obtain ⟨xs, n, _, hx, _, hlen, hg⟩ := DataW.trod_struct Tryd.underlying25 hf
    match xs, hlen with
    | [y0, y1], _ =>
      obtain ⟨rest, e0, _⟩ := DataW.trod_int Tryd.underlying22 (trod_fld hg 0 rfl rfl rfl (o := 0) (k := 1) (by kernel_rfl))
      have g1 := trod_fld hg 1 rfl rfl rfl (o := 1) (k := 1) (by kernel_rfl)
      simp only [Prod.mk.injEq] at hx
      obtain ⟨rfl, hx2⟩ := hx
      simp only [Value.cells, List.drop_zero, List.take_succ_cons, List.take_zero, List.cons.injEq, and_true] at e0
      subst e0
      have hw' : ∀ z, z ∈ y1.1.weights Tryd.prog 23 → z ≤ reachBytes := by
        intro z hz
        refine hw z ?_
        simp only [DataW.weights, Tryd.underlying25, List.map_cons, List.map_nil, DataW.weightsEach, List.mem_append]
        simp [hz]
      obtain ⟨pA, pn, pc, ch, rfl, hn1, R1, L1⟩ := open_chars g1 hw'
      subst hn1
      refine ⟨rest, ch, ⟨_, _, rfl, R1, ?_⟩, L1⟩
      unfold reachBytes at L1
      omega
end Go.Proofs.YtaekdnfpgkfjkaaDoor
end
section
namespace Go.Proofs.YtaekdnfpgkfjkaaDoor
open Go.ChangeShapes Go.WideShapes Go.ChangeAt Go.RowKit Go.Lib

theorem own24 : ownKnob Tryd.prog.godebug = none := by kernel_rfl
def laid24 : List (String × DataW Unit) := [("unicode/utf8.acceptRanges", Rows.laid_unicode_utf8_acceptRanges), ("unicode/utf8.first", Rows.laid_unicode_utf8_first)]
theorem data_acc : (Rows.laid_unicode_utf8_acceptRanges : DataW Unit) = acceptData := by kernel_rfl
theorem data_first : Rows.laid_unicode_utf8_first = firstData := by kernel_rfl
theorem tabs_of_laid {W : World} (h : laidMet Tryd.prog laid24 W) : Lib.Utf8Tabs 0 1 W :=
  utf8Tabs_of_readsT (ρ := Tryd.lays197_ren) { Tryd.lays197 with } ⟨by kernel_rfl, by kernel_rfl, by kernel_rfl, by kernel_rfl, by kernel_rfl, by kernel_rfl, by kernel_rfl⟩
    (Lib.laidMet.reads h (by rw [← data_first]; exact .tail _ (.head _))) (Lib.laidMet.reads h (by rw [← data_acc]; exact .head _))
theorem size_of_tabs {W : World} (h : Lib.Utf8Tabs 0 1 W) : 2 ≤ W.heap.size := by
  have h1 := (h.2 0 (by decide)).1
  rcases Nat.lt_or_ge 1 W.heap.size with hlt | hge
  · exact hlt
  · unfold World.cell? at h1
    rw [Array.getElem?_eq_none hge] at h1
    cases h1

/-- A world for the witness. -/
noncomputable def laidWorld (os : Os) (o : Array Obj) : World :=
  let w0 := World.holding Tryd.prog os ⟨o, #[], []⟩
  let put (h : Array Obj) (g : Nat) (cs : Array Value) : Array Obj := h.modify g fun
    | .cells _ t frozen => .cells cs t frozen
    | o => o
  let h1 := put w0.heap 0 (Lib.firstTab.map fun z => Value.int .u8 z).toArray
  let h2 := put h1 1 ((List.range 16).flatMap fun i => [Value.int .u8 (Lib.accLo i), Value.int .u8 (Lib.accHi i)]).toArray
  { w0 with heap := h2 }
theorem laid_met (os : Os) (args : Array Value) : laidMet Tryd.prog laid24 ((laidWorld os #[]).forCall (fun _ _ => 0) ⟨#[], args, []⟩).memory :=
  (LaidIn.of_run [1, 0] 8 (by kernel_rfl) (by kernel_rfl) (by kernel_rfl) (by kernel_rfl)).met
end Go.Proofs.YtaekdnfpgkfjkaaDoor
end
section
namespace Go.Proofs.YtaekdnfpgkfjkaaDoor

theorem bulk_one {H : Type} (d : DataW H) : 1 ≤ Rows.uptoBulk d := by
  cases d with
  | lit l => cases l <;> simp [Rows.uptoBulk]
  | _ => simp [Rows.uptoBulk]
theorem bulk_mem {H : Type} {d : DataW H} : ∀ {l : List (DataW H)}, d ∈ l → Rows.uptoBulk d ≤ Rows.uptoBulkAll l
  | x :: r, h => by
    simp only [Rows.uptoBulkAll]
    rcases List.mem_cons.1 h with rfl | h
    · omega
    · have := bulk_mem h; omega
theorem bulk_len {H : Type} : ∀ l : List (DataW H), l.length ≤ Rows.uptoBulkAll l
  | [] => by simp [Rows.uptoBulkAll]
  | x :: r => by
    have h1 := bulk_one x
    have h2 := bulk_len r
    simp only [Rows.uptoBulkAll, List.length_cons]; omega
theorem str_small {H : Type} {ds : List (DataW H)} {d : DataW H} {b : List UInt8} (hk : Rows.uptoSmall H ds = true) (hd : d ∈ ds) (he : d = .lit (.string b)) : b.length ≤ 1048576 := by
  have h1 : Rows.uptoBulkAll ds ≤ 1048576 := by simpa [Rows.uptoSmall] using hk
  have h2 := bulk_mem hd
  subst he
  simp only [Rows.uptoBulk] at h2
  omega
theorem str_small' {H : Type} {ds : List (DataW H)} {s : ByteArray} (hk : Rows.uptoSmall H ds = true) (hd : .lit (.string s.data.toList) ∈ ds) : s.size ≤ 1048576 := by
  have h1 := str_small hk hd rfl
  rwa [Array.length_toList] at h1
end Go.Proofs.YtaekdnfpgkfjkaaDoor
end
section
namespace Go.Proofs.YtaekdnfpgkfjkaaDoor
open Go.Joins Go.ChangeShapes Go.WideShapes Go.RowKit Go.Deep

set_option maxRecDepth 100000 in
/-- A slice of levels. -/
theorem open_row33 {H : Type} {enc : TypeId × Value → H} {W : World} {b0 : Nat} {r : Reach} {v : Value} {d : DataW H} {p : List MemPlace} (hv : Value.okWide Tryd.prog W r b0 33 v) (h : DataW.Trod enc Tryd.prog W 0 (fun _ => true) true 33 v d p) :
    ∃ A n c l, v = .slice A n c ∧ n = l.length ∧ RdInts W W.heap.size .i8 A l ∧ (∀ z ∈ l, (Lit.int .i8 z).wf = true) ∧ n ≤ Rows.uptoBulk d := by
  obtain ⟨a, len, cap, rfl⟩ := okWide_slice Tryd.underlying33 hv
  obtain ⟨fuel, hf⟩ := h
  rcases open_ints Tryd.underlying33 Tryd.underlying32 (by kernel_rfl) hf with ⟨hcs, _⟩ | ⟨x, l, c, zs, hcs, _, hl, hm, hz, hx, hcell, hwz⟩
  · simp [Value.cells] at hcs
    obtain ⟨rfl, rfl, rfl⟩ := hcs
    exact ⟨none, 0, 0, [], rfl, rfl, Reads.none_, by simp, by simp⟩
  · simp [Value.cells] at hcs
    obtain ⟨rfl, rfl, rfl⟩ := hcs
    have hd := (Prod.mk.inj hx).1
    have hz2 : zs.length = cap := by simpa using hz
    obtain ⟨l', h1, h2, h3, h4, h5⟩ := rd_of_row (k := .i8) (w := W) (a := some x) (len := len) (cap := cap) (zs := zs) (.inr ⟨x, rfl, hl, hm, hz2, hcell, hwz⟩)
    refine ⟨some x, len, cap, l', rfl, h1.symm, h4, h5, ?_⟩
    rw [hd]
    simp only [Rows.uptoBulk]
    have := bulk_len (lits (H := H) .i8 (zs.take len))
    simp only [lits, List.length_map, List.length_take] at this
    simp only [lits]
    omega
theorem row_small {H : Type} {ds : List (DataW H)} {d : DataW H} {n : Nat} (hk : Rows.uptoSmall H ds = true) (hd : d ∈ ds) (hn : n ≤ Rows.uptoBulk d) : n ≤ 1048576 := by
  have h1 : Rows.uptoBulkAll ds ≤ 1048576 := by simpa [Rows.uptoSmall] using hk
  have h2 := bulk_mem hd
  omega
end Go.Proofs.YtaekdnfpgkfjkaaDoor
end
section
namespace Go.Proofs.YtaekdnfpgkfjkaaDoor.marksLays
open Go.ChangeShapes Go.WideShapes Go.ChangeAt Go.RowKit
open Go.ChangeMaps (open_string shut_string)

theorem laidOut : laidOutB Tryd.prog = true := by kernel_rfl

set_option maxRecDepth 100000 in
theorem contract (H : Type) (enc : TypeId × Value → H) (W : World) (base : Nat) (args : Array Value) (ds gs : List (DataW H)) (before : List MemPlace)
    (hval : ∀ (j : Nat) t v, Tryd.f4.params[j]? = some t → args[j]? = some v → Value.okWide Tryd.prog W .any base t v)
    (hW : DataW.Whole enc Tryd.prog Tryd.f4.params.toList Rows.marksLaysSpec.vars false W args.toList ds gs before) (hk : Rows.uptoSmall H (ds ++ gs) = true)
    (hsz0 : (DataW.weightsEach Tryd.prog (Tryd.f4.params.toList ++ Rows.marksLaysSpec.plain.varTypes Tryd.prog) (ds ++ gs)).all (· ≤ reachBytes) = true) (hL : laidMetH Tryd.prog Rows.marksLaysUptoRow.laid W) :
    Calls Tryd.prog 4 args W fun e W' => ∃ v, e = .returned v ∧ Rows.marksLaysSpec.post enc Tryd.prog Tryd.f4 false true false false W args v W' := by
  have hT := tabs_of_laid hL
  have h2 := size_of_tabs hT
  have hsz := hsz0
  clear hsz0
  have hW' := hW
  obtain ⟨p, q, hA0, hV, rfl, hfz, hnd⟩ := hW
  have hA : DataW.TrodAll enc Tryd.prog W 0 (fun _ => true) true Tryd.f4.params.toList args.toList ds p := hA0
  rw [Tryd.params4] at hA hval hsz
  obtain ⟨v0, vs0, d0, ds0, p0, q0, hargs, rfl, rfl, h0, r0⟩ := trodAll_cons hA
  obtain ⟨v1, vs1, d1, ds1, p1, q1, rfl, rfl, rfl, h1, r1⟩ := trodAll_cons r0
  obtain ⟨v2, vs2, d2, ds2, p2, q2, rfl, rfl, rfl, h2q, r2⟩ := trodAll_cons r1
  obtain ⟨v3, vs3, d3, ds3, p3, q3, rfl, rfl, rfl, h3, r3⟩ := trodAll_cons r2
  obtain ⟨rfl, rfl, rfl⟩ := trodAll_nil r3
  obtain rfl : args = #[v0, v1, v2, v3] := by cases args; simp_all
  obtain ⟨rfl, rfl⟩ := trodVars_none hV
  clear hA0
  have k0 := h0
  have lt0 : ∀ x ∈ p0, x.block < W.heap.size := by obtain ⟨m, hm⟩ := k0; exact DataW.trod_lt m _ _ _ hm
  have wt0 : ∀ n, n ∈ d0.weights Tryd.prog 25 → n ≤ reachBytes := by
    intro n hn
    have := List.all_eq_true.1 hsz n (by simp [DataW.weightsEach, hn])
    simpa using this
  obtain ⟨rest0, ch0, HP0, -⟩ := open_props (hval 0 25 v0 rfl rfl) h0 wt0
  have k1 := h1
  have lt1 : ∀ x ∈ p1, x.block < W.heap.size := by obtain ⟨m, hm⟩ := k1; exact DataW.trod_lt m _ _ _ hm
  obtain ⟨s1, rfl, rfl, rfl, ws1⟩ := open_string Tryd.underlying9 (hval 1 9 v1 rfl rfl) h1
  have hs1 : s1.size ≤ 1048576 := str_small' hk (by simp)
  have k2 := h2q
  have lt2 : ∀ x ∈ p2, x.block < W.heap.size := by obtain ⟨m, hm⟩ := k2; exact DataW.trod_lt m _ _ _ hm
  obtain ⟨z2, rfl, rfl, rfl, wz2⟩ := open_int Tryd.underlying32 (hval 2 32 v2 rfl rfl) h2q
  have k3 := h3
  have lt3 : ∀ x ∈ p3, x.block < W.heap.size := by obtain ⟨m, hm⟩ := k3; exact DataW.trod_lt m _ _ _ hm
  obtain ⟨A3, n3, c3, l3, rfl, hn3, HR3, wz3, hb3⟩ := open_row33 (hval 3 33 v3 rfl rfl) h3
  have hs3 : n3 ≤ 1048576 := row_small hk (by simp) hb3
  clear hval
  refine (lays_walk hT h2 HP0 HR3 hn3 (by omega) (by omega)).mono fun e W' ⟨he, bel⟩ => ?_
  subst he
  exact ⟨_, rfl, _, _, _, [], _, [], hW', trodAll_mk1 (shut_bool Tryd.underlying4 _), trodAll_cons_mk (Below.trod laidOut (by kernel_rfl) (of_decide_eq_true (by kernel_rfl)) k0 bel lt0) (trodAll_cons_mk (Below.trod laidOut (by kernel_rfl) (of_decide_eq_true (by kernel_rfl)) k1 bel lt1) (trodAll_cons_mk (Below.trod laidOut (by kernel_rfl) (of_decide_eq_true (by kernel_rfl)) k2 bel lt2) (trodAll_cons_mk (Below.trod laidOut (by kernel_rfl) (of_decide_eq_true (by kernel_rfl)) k3 bel lt3) (trodAll_mk0)))), rfl, bel.frame _, fun h => by cases h⟩

theorem reads (os : Os) {H : Type} (enc : TypeId × Value → H) : ∃ places, DataW.whole enc Tryd.prog ((laidWorld os #[]).forCall (fun _ _ => 0) ⟨#[], #[.agg #[.int .u8 0, .slice none 0 0], .string ⟨#[]⟩, .int .i8 0, .slice none 0 0], []⟩).memory Tryd.f4.params.toList Rows.marksLaysSpec.vars false (#[.agg #[.int .u8 0, .slice none 0 0], .string ⟨#[]⟩, .int .i8 0, .slice none 0 0] : Array Value).toList 8 = some ([.agg [.lit (.int .u8 0), .nil], .lit (.string []), .lit (.int .i8 0), .nil], [], places) :=
  ⟨[], by kernel_rfl⟩

set_option maxRecDepth 100000 in
theorem lifted (os : Os) (started : os.Started) (H : Type) (enc : TypeId × Value → H) (F : Stop.Interp) :
    ReturnsInHanded {} Tryd.checked os 4 .any ((Rows.OpenSpec.upto Rows.marksLaysSpec).preRow enc Tryd.prog Tryd.f4 Rows.marksLaysUptoRow.domain false Rows.marksLaysUptoRow.laid) (((Rows.OpenSpec.upto Rows.marksLaysSpec).at F).post enc Tryd.prog Tryd.f4 false true false false) := by
  obtain ⟨places, hx⟩ := reads os enc
  refine returnsInHanded_of_row (C := Tryd.checked) (s := (Rows.OpenSpec.upto Rows.marksLaysSpec)) own24 started (by kernel_rfl) Tryd.func4
    (witness_row_at (enc := enc) (C := Tryd.checked) false (laidWorld os #[]) #[.agg #[.int .u8 0, .slice none 0 0], .string ⟨#[]⟩, .int .i8 0, .slice none 0 0] rfl (by kernel_rfl) (by kernel_rfl) (by kernel_rfl)
      (OpenSpec.preRow_of_cond 8 hx (by kernel_rfl) (fun k hk => by cases hk; kernel_rfl) (by kernel_rfl) (laid_met os _))) ?_
  intro W base args ds gs before hval hW _ hcond hsz hL _ _
  exact contract H enc W base args ds gs before hval hW (hcond _ rfl) hsz hL

theorem said : Rows.MarksLaysUptoSaid :=
  OpenClaim.holds_of_cond 4 Tryd.f4 rfl rfl rfl rfl rfl rfl rfl ⟨rfl, rfl, rfl, rfl, rfl⟩ rfl rfl rfl rfl rfl (by kernel_rfl) Tryd.func4 (by kernel_rfl)
    (of_decide_eq_true (by kernel_rfl)) (by unfold Func.isWrapper; first | (rw [if_pos (by decide +kernel)]; kernel_rfl) | (rw [if_neg (by decide +kernel)]; exact ⟨rfl, rfl⟩))
    (fun os started H enc _ F => by rw [OpenClaim.pre_eq_preRow]; exact lifted os started H enc F)

theorem plain (f : FuncId) (fn : Func) (hf : Tryd.pinned.checked.prog.funcNamed "furrow/furrowlaw24.MarksLays" = some f) (hfn : Tryd.pinned.checked.prog.funcs[f]? = some fn) :
    false = Tryd.pinned.checked.prog.looks [] ∧ ∀ (j : Nat) t, fn.params[j]? = some t → Tryd.pinned.checked.prog.wantsStandIn t = false := by
  obtain rfl : f = 4 := Option.some.inj ((show Tryd.prog.funcNamed "furrow/furrowlaw24.MarksLays" = some 4 by kernel_rfl).symm.trans hf) |>.symm
  obtain rfl : fn = Tryd.f4 := (Option.some.inj (Tryd.func4.symm.trans hfn)).symm
  refine ⟨by kernel_rfl, fun j t ht => ?_⟩
  rw [Tryd.params4] at ht
  have ht2 : t = 25 ∨ t = 9 ∨ t = 32 ∨ t = 33 := by simpa using Array.mem_of_getElem? ht
  rcases ht2 with rfl | rfl | rfl | rfl
  · exact (show Tryd.prog.wantsStandIn 25 = false by kernel_rfl)
  · exact (show Tryd.prog.wantsStandIn 9 = false by kernel_rfl)
  · exact (show Tryd.prog.wantsStandIn 32 = false by kernel_rfl)
  · exact (show Tryd.prog.wantsStandIn 33 = false by kernel_rfl)

/-- The statement. -/
theorem proved : Rows.MarksLaysUptoCardSaid :=
  Claim7.holds_tied_plain_at .later [] _ _ _ _ said (fun _ h => by cases h) (by kernel_rfl) (fun _ h => by cases h) marksLaysUpto_row_tie rfl ⟨rfl, rfl⟩ (by kernel_rfl) rfl plain (by kernel_rfl)
#print axioms proved
end Go.Proofs.YtaekdnfpgkfjkaaDoor.marksLays
end
