/- A sequence under way: side, within, become. -/
import Derived.Test.YtpdackbcnbhppaaR12
import Derived.Test.YtpdackbcnbhppaaH3
import Derived.BigQuiet
import Derived.Deep.QuietTactic
namespace Go.Proofs.Ytpdackbcnbhppaa
open Go.RowKit
attribute [local go_sem] Oper.semAt_some

/-- L, or what counts as R; 0: it is not strong. -/
def sdL (c : Int) : Int := if c = 4 ∨ c = 7 ∨ c = 3 ∨ c = 2 then 2 else if c = 1 then 1 else 0
set_option maxRecDepth 100000 in
set_option maxHeartbeats 1000000 in
theorem side_ok (w : World) (c : Int) : Calls Try.prog 97 #[.int .u8 c] w fun e w' => e = .returned (.int .u8 (sdL c)) ∧ w' = w := by
  unfold sdL
  by_cases h4 : c = 4
  · subst h4
    go_enter Try.func97, Try.ntmps97
    go_wp2
    go_ret
    exact ⟨rfl, rfl⟩
  by_cases h7 : c = 7
  · subst h7
    go_enter Try.func97, Try.ntmps97
    go_wp2
    go_ret
    exact ⟨rfl, rfl⟩
  by_cases h3 : c = 3
  · subst h3
    go_enter Try.func97, Try.ntmps97
    go_wp2
    go_ret
    exact ⟨rfl, rfl⟩
  by_cases h2 : c = 2
  · subst h2
    go_enter Try.func97, Try.ntmps97
    go_wp2
    go_ret
    exact ⟨rfl, rfl⟩
  by_cases h1 : c = 1
  · subst h1
    go_enter Try.func97, Try.ntmps97
    go_wp2
    go_ret
    exact ⟨rfl, rfl⟩
  · rw [if_neg (by omega), if_neg h1]
    have q4 : (c == 4) = false := by simpa using h4
    have q7 : (c == 7) = false := by simpa using h7
    have q3 : (c == 3) = false := by simpa using h3
    have q2 : (c == 2) = false := by simpa using h2
    have q1 : (c == 1) = false := by simpa using h1
    go_enter Try.func97, Try.ntmps97
    go_wp2
    go_ret
    exact ⟨rfl, rfl⟩

/-- A sequence under way, in its block: the places are read, the classes are its own, the first classes are read. -/
structure QIs (W : World) (b g n cc pc fn fc : Nat) (pA fA : Option Addr) (pl cs fs : List Int) (lv so eo way : Int) (Bp : Nat) : Prop where
  blk : Blk W b 133 #[.slice pA n pc, .slice (some ⟨g, 0, none⟩) n cc, .int .i8 lv, .int .u8 so, .int .u8 eo, .slice fA fn fc, .int .u8 way]
  ip : RdInts W Bp .i64 pA pl
  ic : Ints W 0 28 .u8 (.slice (some ⟨g, 0, none⟩) n cc) cs
  fr : RdInts W Bp .u8 fA fs
  np : pl.length = n
  nf : fs.length = fn
  hb : b ≠ g
  ap : ∀ q off, (pA = some ⟨q, off, none⟩ ∨ fA = some ⟨q, off, none⟩) → q ≠ g ∧ q ≠ b ∧ q < W.heap.size
section
variable {W W' : World} {b g n cc pc fn fc : Nat} {pA fA : Option Addr} {pl cs fs : List Int} {lv so eo way : Int} {Bp : Nat}
theorem QIs.frm {F : Nat → Prop} (h : QIs W b g n cc pc fn fc pA fA pl cs fs lv so eo way Bp) (hF : Frm F W W') (h1 : ¬ F b) (h2 : ¬ F g) (h3 : ∀ q, q ≠ g → q ≠ b → q < W.heap.size → ¬ F q) : QIs W' b g n cc pc fn fc pA fA pl cs fs lv so eo way Bp :=
  ⟨h.blk.frm hF h1, RdInts.frmA h.ip hF (fun q off e => by have := h.ap q off (.inl e); exact h3 q this.1 this.2.1 this.2.2), h.ic.frm hF (fun j e => (show g = j by simpa [Value.ownBlock] using e) ▸ h2),
    RdInts.frmA h.fr hF (fun q off e => by have := h.ap q off (.inr e); exact h3 q this.1 this.2.1 this.2.2), h.np, h.nf, h.hb, fun q off e => by have := h.ap q off e; exact ⟨this.1, this.2.1, Nat.lt_of_lt_of_le this.2.2 hF.size⟩⟩
theorem QIs.below {C : Nat} (h : QIs W b g n cc pc fn fc pA fA pl cs fs lv so eo way Bp) (hb : Below C W W') (hC : W.heap.size ≤ C) : QIs W' b g n cc pc fn fc pA fA pl cs fs lv so eo way Bp :=
  h.frm (Frm.of_below (F := fun _ => False) (hb.mono hC)) id id (fun _ _ _ _ => id)
theorem QIs.set (h : QIs W b g n cc pc fn fc pA fA pl cs fs lv so eo way Bp) (i : Nat) (x : Int) : QIs (W.setCell ⟨g, i, none⟩ (.int .u8 x)) b g n cc pc fn fc pA fA pl (cs.set i x) fs lv so eo way Bp := by
  have hF : Frm (fun k => k = g) W (W.setCell ⟨g, i, none⟩ (.int .u8 x)) := (Frm.refl (fun k => k = g) W).set rfl _
  exact ⟨h.blk.frm hF (fun e => h.hb e), RdInts.frmA h.ip hF (fun q off e => (h.ap q off (.inl e)).1), h.ic.set i x, RdInts.frmA h.fr hF (fun q off e => (h.ap q off (.inr e)).1), h.np, h.nf, h.hb, fun q off e => by have := h.ap q off e; exact ⟨this.1, this.2.1, Nat.lt_of_lt_of_le this.2.2 hF.size⟩⟩
theorem QIs.c7 (h : QIs W b g n cc pc fn fc pA fA pl cs fs lv so eo way Bp) : W.cell? ⟨b, 0, none⟩ = some (.slice pA n pc) ∧ W.cell? ⟨b, 1, none⟩ = some (.slice (some ⟨g, 0, none⟩) n cc) ∧ W.cell? ⟨b, 2, none⟩ = some (.int .i8 lv) ∧ W.cell? ⟨b, 3, none⟩ = some (.int .u8 so) ∧ W.cell? ⟨b, 4, none⟩ = some (.int .u8 eo) ∧
    W.cell? ⟨b, 5, none⟩ = some (.slice fA fn fc) ∧ W.cell? ⟨b, 6, none⟩ = some (.int .u8 way) ∧ (∀ j, W.frozen? ⟨b, j, none⟩ = false) ∧ b < W.heap.size :=
  ⟨h.blk.cell 0, h.blk.cell 1, h.blk.cell 2, h.blk.cell 3, h.blk.cell 4, h.blk.cell 5, h.blk.cell 6, h.blk.frozen, h.blk.lt⟩
end

def wiS (cs : List Int) (way : Int) (o : Nat) : Nat → Bool
  | 0 => false
  | k + 1 => wiS cs way o k || sdL (cs.getD (o + k) 0) == way
def wiA (cs : List Int) (o : Nat) : Nat → Bool
  | 0 => false
  | k + 1 => wiA cs o k || sdL (cs.getD (o + k) 0) != 0

set_option maxRecDepth 100000 in
set_option maxHeartbeats 2000000 in
theorem within_ok {w : World} {b g n cc pc fn fc : Nat} {pA fA : Option Addr} {pl cs fs : List Int} {lv so eo way : Int} {Bp : Nat} (h : QIs w b g n cc pc fn fc pA fA pl cs fs lv so eo way Bp) {o d : Nat} (hod : o < d) (hd : d < n) (hm : n ≤ 1048576) :
    Calls Try.prog 89 #[.pointer (some ⟨b, 0, none⟩), .agg #[.int .i64 o, .int .i64 d]] w fun e w' => e = .returned (.tuple #[.bool (wiS cs way (o + 1) (d - (o + 1))), .bool (wiA cs (o + 1) (d - (o + 1)))]) ∧ Below w.heap.size w w' := by
  obtain ⟨hcl, hcc, _, _, hgs, hgf, hcell⟩ := h.ic.at_
  obtain ⟨c0, c1, c2, c3, c4, c5, c6, cf, cl⟩ := h.c7
  obtain ⟨o1, ho1⟩ : ∃ o1, o + 1 = o1 := ⟨_, rfl⟩
  obtain ⟨m, hm1⟩ : ∃ m, d - o1 = m := ⟨_, rfl⟩
  rw [ho1, hm1]
  have e1 : IntKind.i64.wrap ((o : Int) + 1) = (o1 : Int) := by rw [IntWalk.i64_in _ (by omega)]; omega
  have ho2 : o1 ≤ d := by omega
  have hdc : d ≤ cc := by omega
  have hne : ¬ cc = o1 := by omega
  have hdo : d - o1 = m := hm1
  have HCL := Lib.hid hcl
  have HM1 := Lib.hid hm1
  have HO1 := Lib.hid ho1
  clear hcl ho1 hm1
  go_enter Try.func89, Try.ntmps89
  go_wp2
  go_quiet (fail)
  go_wp2
  have hb0 : Below w.heap.size w ((w.alloc (.cells #[.int .i64 o, .int .i64 d] 65)).drewN nq) := below_drewN ((Below.refl _ w).alloc (Nat.le_refl _) _) _
  obtain ⟨W1, hW1⟩ : ∃ W1, (w.alloc (.cells #[.int .i64 o, .int .i64 d] 65)).drewN nq = W1 := ⟨_, rfl⟩
  rw [hW1] at hb0 ⊢
  have hk0 : ∀ i, i < n → W1.cell? ⟨g, i, none⟩ = some (.int .u8 (cs.getD i 0)) := fun i hi => ((bcell hb0).1 g i hgs).trans (hcell i (by have := HCL.out; omega))
  have c62 : W1.cell? ⟨b, 6, none⟩ = some (.int .u8 way) := ((bcell hb0).1 b 6 cl).trans c6
  clear hW1 c0 c1 c2 c3 c4 c5 c6 cf hcell hgf
  have HK0 := Lib.hid hk0
  clear hk0
  go_loopg [4, 5, 21] m (fun gk sv av iv wr => ∃ i : Nat, i + gk = m ∧ iv = .int .i64 i ∧ sv = .bool (wiS cs way o1 i) ∧ av = .bool (wiA cs o1 i) ∧ wr = W1)
  case atStart => exact ⟨0, by omega, rfl, rfl, rfl, rfl⟩
  case round =>
    obtain ⟨i, hi, rfl, rfl, rfl, rfl⟩ := hrel
    have HI := Lib.hid hi
    clear hi
    by_cases hlt : i < m
    · obtain ⟨x, hx⟩ : ∃ x, cs.getD (o1 + i) 0 = x := ⟨_, rfl⟩
      have q0 := HK0.out (o1 + i) (by omega)
      rw [hx] at q0
      have hS : wiS cs way o1 (i + 1) = (wiS cs way o1 i || sdL x == way) := by rw [← hx]; rfl
      have hA : wiA cs o1 (i + 1) = (wiA cs o1 i || sdL x != 0) := by rw [← hx]; rfl
      have CS : ∀ W, Calls Try.prog 97 #[.int .u8 x] W fun e w' => e = .returned (.int .u8 (sdL x)) ∧ w' = W := fun W => side_ok W x
      obtain ⟨k, hk⟩ : ∃ k, sdL x = k := ⟨_, rfl⟩
      rw [hk] at CS hS hA
      have HS := Lib.hid hS
      have HA := Lib.hid hA
      clear hS hA hk hx
      rcases hs : wiS cs way o1 i with _ | _
      · rcases ha : wiA cs o1 i with _ | _
        · go_wp2_with (go_at_call 97; refine (CS _).mono ?_; rintro r3 w3 ⟨rfl, rfl⟩)
          go_roundg (m - (i + 1))
          case rel => exact ⟨i + 1, by omega, by go_num, by rw [HS.out, hs]; rfl, by rw [HA.out, ha]; rfl, rfl⟩
          case measure => have := HI.out; omega
        · go_wp2_with (go_at_call 97; refine (CS _).mono ?_; rintro r3 w3 ⟨rfl, rfl⟩)
          go_roundg (m - (i + 1))
          case rel => exact ⟨i + 1, by omega, by go_num, by rw [HS.out, hs]; rfl, by rw [HA.out, ha]; rfl, rfl⟩
          case measure => have := HI.out; omega
      · rcases ha : wiA cs o1 i with _ | _
        · go_wp2_with (go_at_call 97; refine (CS _).mono ?_; rintro r3 w3 ⟨rfl, rfl⟩)
          go_roundg (m - (i + 1))
          case rel => exact ⟨i + 1, by omega, by go_num, by rw [HS.out, hs]; rfl, by rw [HA.out, ha]; rfl, rfl⟩
          case measure => have := HI.out; omega
        · go_wp2_with (go_at_call 97; refine (CS _).mono ?_; rintro r3 w3 ⟨rfl, rfl⟩)
          go_roundg (m - (i + 1))
          case rel => exact ⟨i + 1, by omega, by go_num, by rw [HS.out, hs]; rfl, by rw [HA.out, ha]; rfl, rfl⟩
          case measure => have := HI.out; omega
    · have him : i = m := by have := HI.out; omega
      subst him
      go_wp2
      go_ret2
      exact ⟨rfl, hb0⟩

/-- The first strong one ahead of k. -/
def ahT (cs : List Int) (sos : Int) : Nat → Int
  | 0 => sos
  | k + 1 => if sdL (cs.getD k 0) ≠ 0 then sdL (cs.getD k 0) else ahT cs sos k
/-- From i on, so many: what becomes of those that follow. -/
def bcT (pl fs : List Int) (c : Int) : Nat → Nat → List Int → List Int
  | 0, _, cs => cs
  | d + 1, i, cs => if fs.getD (pl.getD i 0).toNat 0 = 9 then bcT pl fs c d (i + 1) (cs.set i c) else cs
def becL (pl fs : List Int) (n at_ : Nat) (c : Int) (cs : List Int) : List Int := bcT pl fs c (n - (at_ + 1)) (at_ + 1) (cs.set at_ c)
theorem bcT_length (pl fs : List Int) (c : Int) : ∀ d i cs, (bcT pl fs c d i cs).length = cs.length
  | 0, _, _ => rfl
  | d + 1, i, cs => by
    unfold bcT
    split
    · rw [bcT_length pl fs c d, List.length_set]
    · rfl

set_option maxRecDepth 100000 in
set_option maxHeartbeats 2000000 in
theorem become_ok {w : World} {b g n cc pc fn fc : Nat} {pA fA : Option Addr} {pl cs fs : List Int} {lv so eo way : Int} {Bp : Nat} (h : QIs w b g n cc pc fn fc pA fA pl cs fs lv so eo way Bp) {k : Nat} (hk : k < n) (hm : n ≤ 1048576) (c : Int) (hin : ∀ i, i < n → 0 ≤ pl.getD i 0 ∧ pl.getD i 0 < (fn : Int)) (_hfn : fn ≤ 4611686018427387904) :
    Calls Try.prog 91 #[.pointer (some ⟨b, 0, none⟩), .int .i64 k, .int .u8 c] w fun e w' => e = .returned (.tuple #[]) ∧ QIs w' b g n cc pc fn fc pA fA pl (becL pl fs n k c cs) fs lv so eo way Bp ∧ Frm (fun j => j = g) w w' := by
  obtain ⟨c0, c1, c2, c3, c4, c5, c6, cf, cl⟩ := h.c7
  obtain ⟨hcl, hcc, _, _, hgs, hgf, hcell⟩ := h.ic.at_
  have hgk := hcell k (by omega)
  have hQ1 := h.set k c
  obtain ⟨C, hC⟩ : ∃ C, becL pl fs n k c cs = C := ⟨_, rfl⟩
  rw [hC]
  have HC := Lib.hid hC
  have HIN := Lib.hid hin
  have HCL := Lib.hid hcl
  clear hcl hcc hcell hC hin
  have F1 : Frm (fun j => j = g) w (w.setCell ⟨g, k, none⟩ (.int .u8 c)) := (Frm.refl (fun j => j = g) w).set rfl _
  obtain ⟨W1, hW1⟩ : ∃ W1, w.setCell ⟨g, k, none⟩ (.int .u8 c) = W1 := ⟨_, rfl⟩
  rw [hW1] at hQ1 F1
  have HW1 := Lib.hid hW1
  clear hW1
  obtain ⟨k1, hk1⟩ : ∃ k1, k + 1 = k1 := ⟨_, rfl⟩
  have e1 : IntKind.i64.wrap ((k : Int) + 1) = (k1 : Int) := by rw [IntWalk.i64_in _ (by omega)]; omega
  have HK1 := Lib.hid hk1
  go_enter Try.func91, Try.ntmps91
  go_wp2
  rw [HW1.out]
  clear e1 c0 c1 c2 c3 c4 c5 c6 cf cl hgf hgk hgs hk1
  obtain ⟨dd, hdd⟩ : ∃ dd, k1 + dd = n := ⟨n - k1, by have := HK1.out; omega⟩
  have HDD := Lib.hid hdd
  clear hdd
  go_loopg [6] dd (fun gk iv wr => ∃ (i : Nat) (cs' : List Int), i + gk = n ∧ iv = .int .i64 i ∧ QIs wr b g n cc pc fn fc pA fA pl cs' fs lv so eo way Bp ∧ bcT pl fs c (n - i) i cs' = C ∧ Frm (fun j => j = g) w wr)
  case atStart => exact ⟨k1, cs.set k c, HDD.out, rfl, hQ1, by rw [← HC.out]; unfold becL; rw [HK1.out], F1⟩
  case round =>
    clear hQ1 F1
    obtain ⟨i, cs', hi, rfl, hQ, hbc, F⟩ := hrel
    have HI := Lib.hid hi
    have HBC := Lib.hid hbc
    clear hi hbc
    obtain ⟨c0, c1, c2, c3, c4, c5, c6, cf, cl⟩ := hQ.c7
    by_cases hlt : i < n
    · obtain ⟨pb, po, rfl, p1, p2, q0⟩ := hQ.ip.at_ (i := i) (by have := hQ.np; omega)
      obtain ⟨a, ha⟩ : ∃ a : Nat, pl.getD i 0 = a := ⟨(pl.getD i 0).toNat, by have := (HIN.out i hlt).1; omega⟩
      have han : a < fn := by have := (HIN.out i hlt).2; omega
      obtain ⟨fb, fo, rfl, f1, f2, q1⟩ := hQ.fr.at_ (i := a) (by have := hQ.nf; omega)
      obtain ⟨x, hx⟩ : ∃ x, fs.getD a 0 = x := ⟨_, rfl⟩
      rw [ha] at q0
      rw [hx] at q1
      obtain ⟨d, hd⟩ : ∃ d, n - i = d + 1 := ⟨n - i - 1, by omega⟩
      have hst : bcT pl fs c (d + 1) i cs' = if x = 9 then bcT pl fs c d (i + 1) (cs'.set i c) else cs' := by
        rw [← hx]
        show (if fs.getD (pl.getD i 0).toNat 0 = 9 then _ else _) = _
        rw [ha, Int.toNat_natCast]
      have hbc2 := HBC.out
      rw [hd, hst] at hbc2
      have HBC2 := Lib.hid hbc2
      have hd1 : n - (i + 1) = d := by omega
      have HD1 := Lib.hid hd1
      obtain ⟨hcl, hcc, _, _, hgs, hgf, hcell⟩ := hQ.ic.at_
      have hgi := hcell i (by omega)
      clear ha hx hd hst hbc2 hd1 hcl hcell
      by_cases h9 : x = 9
      · subst h9
        go_wp2
        go_quiet (fail)
        go_wp2
        have hF2 : Frm (fun j => j = g) wr (wr.drewN nq) := (Frm.refl (fun j => j = g) wr).drewN nq
        go_roundg (n - (i + 1))
        case rel =>
          refine ⟨i + 1, cs'.set i c, by omega, by go_num, (QIs.frm (F := fun _ => False) hQ ((Frm.refl (fun _ => False) wr).drewN nq) id id (fun _ _ _ _ => id)).set i c, ?_, (F.trans hF2 (fun _ _ e => e)).set rfl _⟩
          have := HBC2.out
          rw [if_pos trivial] at this
          rw [HD1.out]; exact this
        case measure => have := HI.out; omega
      · have hx9 : (x == 9) = false := by simpa using h9
        have hC : cs' = C := by have := HBC2.out; rw [if_neg h9] at this; exact this
        have HCC := Lib.hid hC
        clear hC
        go_wp2
        go_quiet (fail)
        go_wp2
        go_end0
        exact ⟨rfl, by rw [← HCC.out]; exact QIs.frm (F := fun _ => False) hQ ((Frm.refl (fun _ => False) wr).drewN nq) id id (fun _ _ _ _ => id), F.drewN nq⟩
    · have hin : i = n := by have := HI.out; omega
      subst hin
      have hC : cs' = C := by have := HBC.out; rw [Nat.sub_self] at this; exact this
      have HCC := Lib.hid hC
      have hd2 : decide ((i : Int) < (i : Int)) = false := by simp
      clear hC
      go_wp2
      go_quiet (fail)
      go_wp2
      go_end0
      exact ⟨rfl, by rw [← HCC.out]; exact QIs.frm (F := fun _ => False) hQ ((Frm.refl (fun _ => False) wr).drewN nq) id id (fun _ _ _ _ => id), F.drewN nq⟩
end Go.Proofs.Ytpdackbcnbhppaa
