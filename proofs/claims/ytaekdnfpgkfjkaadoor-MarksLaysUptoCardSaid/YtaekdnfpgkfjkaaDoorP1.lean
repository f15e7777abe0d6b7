/- Props made by hand: what they tell; may they be? -/
import Derived.Test.YtaekdnfpgkfjkaaDoorR1
import Derived.Test.YtaekdnfpgkfjkaaDoorC7
import Derived.BigQuiet
import Derived.Deep.QuietTactic
namespace Go.Proofs.YtaekdnfpgkfjkaaDoor
open Go.RowKit
attribute [local go_sem] Oper.semAt_some

structure Chr where
  r : Int
  cl : Int
  ot : Int
  sd : Int
  tw : Int
  mi : Int
  tu : Bool
def Chr.zero : Chr := ⟨0, 0, 0, 0, 0, 0, false⟩
def chC (x : Chr) : List Value := [.int .i32 x.r, .int .u8 x.cl, .int .i32 x.ot, .int .u8 x.sd, .int .i32 x.tw, .int .i32 x.mi, .bool x.tu]
theorem encK : Enc chC 7 := ⟨fun _ => rfl, fun x u hu => by simp [chC] at hu; rcases hu with rfl | rfl | rfl | rfl | rfl | rfl | rfl <;> rfl⟩
/-- The first of that number. -/
def atL : List Chr → Int → Option Chr
  | [], _ => none
  | c :: L, r => if c.r = r then some c else atL L r
def brL (L : List Chr) (r : Int) : Int × Int := match atL L r with | some c => if c.sd = 1 ∨ c.sd = 2 then (c.ot, c.sd) else (0, 0) | none => (0, 0)
def twL (L : List Chr) (r : Int) : Int := match atL L r with | some c => if c.tw = 0 then r else c.tw | none => r
def cpL (rest : Int) (L : List Chr) (r : Int) : Int := match atL L r with | some c => c.cl | none => rest
/-- Props, as a value. -/
def PropsIs (W : World) (B : Nat) (pv : Value) (rest : Int) (L : List Chr) : Prop := ∃ A c, pv = .agg #[.int .u8 rest, .slice A L.length c] ∧ RdR chC 7 W B A L ∧ L.length ≤ 4611686018427387904
theorem PropsIs.below {W W' : World} {B C : Nat} {pv : Value} {rest : Int} {L : List Chr} (h : PropsIs W B pv rest L) (hb : Below C W W') (hC : B ≤ C ∨ W.heap.size ≤ C) : PropsIs W' B pv rest L := by
  obtain ⟨A, c, h1, h2, h3⟩ := h
  exact ⟨A, c, h1, h2.below hb hC, h3⟩
theorem PropsIs.frm {W W' : World} {B : Nat} {pv : Value} {rest : Int} {L : List Chr} (h : PropsIs W B pv rest L) (hF : Frm (fun _ => False) W W') : PropsIs W' B pv rest L := h.below (hF.below (Nat.le_refl _) (fun _ _ => id)) (.inr (Nat.le_refl _))
theorem PropsIs.drew {W : World} {B : Nat} {pv : Value} {rest : Int} {L : List Chr} (h : PropsIs W B pv rest L) : PropsIs W.drew B pv rest L := h
theorem atL_drop {L : List Chr} {r : Int} : ∀ {i : Nat} {x : Chr}, L[i]? = some x → atL (L.drop i) r = if x.r = r then some x else atL (L.drop (i + 1)) r := by
  intro i x h
  have hi : i < L.length := (List.getElem?_eq_some_iff.1 h).1
  have : L.drop i = x :: L.drop (i + 1) := by
    rw [List.drop_eq_getElem_cons hi]
    rw [List.getElem?_eq_getElem hi] at h
    rw [Option.some.inj h]
  rw [this]; rfl

set_option maxRecDepth 100000 in
set_option maxHeartbeats 2000000 in
theorem pat_ok {w : World} {B : Nat} {pv : Value} {rest : Int} {L : List Chr} (r : Int) (h : PropsIs w B pv rest L) :
    Calls Tryd.prog 54 #[pv, .int .i32 r] w fun e w' => e = .returned (.tuple #[.agg (chC ((atL L r).getD Chr.zero)).toArray, .bool (atL L r).isSome]) ∧ Below w.heap.size w w' := by
  obtain ⟨A, c, rfl, hR, hm⟩ := h
  obtain ⟨n, hn⟩ : ∃ n, L.length = n := ⟨_, rfl⟩
  rw [hn] at hm ⊢
  have HN := Lib.hid hn
  clear hn
  obtain ⟨W1, hW1⟩ : ∃ W1, ((w.alloc (.cells #[.int .u8 rest, .slice A n c] 25)).alloc (.cells #[.int .i32 0, .int .u8 0, .int .i32 0, .int .u8 0, .int .i32 0, .int .i32 0, .bool false] 53)) = W1 := ⟨_, rfl⟩
  have b1 : Below w.heap.size w W1 := by rw [← hW1]; exact ((Below.refl _ w).alloc (Nat.le_refl _) _).alloc (by simp) _
  have X2 : Blk W1 w.heap.size 25 #[.int .u8 rest, .slice A n c] := by rw [← hW1]; exact (Blk.new w 25 _).alloc _
  have X4 : Blk W1 (w.heap.size + 1) 53 #[.int .i32 0, .int .u8 0, .int .i32 0, .int .u8 0, .int .i32 0, .int .i32 0, .bool false] := by rw [← hW1]; exact Blk.at_ (by simp)
  have hR1 := hR.below b1 (.inr (Nat.le_refl _))
  have HW1 := Lib.hid hW1
  obtain ⟨x0, x1, xf, xl⟩ := X2.c2
  clear hW1
  have fin : ∀ (y : Chr), ∃ W2, (((((((W1.setCell ⟨w.heap.size + 1, 0, none⟩ (.int .i32 y.r)).setCell ⟨w.heap.size + 1, 1, none⟩ (.int .u8 y.cl)).setCell ⟨w.heap.size + 1, 2, none⟩ (.int .i32 y.ot)).setCell ⟨w.heap.size + 1, 3, none⟩ (.int .u8 y.sd)).setCell ⟨w.heap.size + 1, 4, none⟩ (.int .i32 y.tw)).setCell ⟨w.heap.size + 1, 5, none⟩ (.int .i32 y.mi)).setCell ⟨w.heap.size + 1, 6, none⟩ (.bool y.tu)) = W2 ∧
      Blk W2 (w.heap.size + 1) 53 (chC y).toArray ∧ Below w.heap.size w W2 := by
    intro y
    refine ⟨_, rfl, ?_, ?_⟩
    · simpa [chC] using ((((((X4.set_ 0 (.int .i32 y.r)).set_ 1 (.int .u8 y.cl)).set_ 2 (.int .i32 y.ot)).set_ 3 (.int .u8 y.sd)).set_ 4 (.int .i32 y.tw)).set_ 5 (.int .i32 y.mi)).set_ 6 (.bool y.tu)
    · have F := (((((((Frm.refl (fun i => i = w.heap.size + 1) W1).set (j := 0) rfl (.int .i32 y.r)).set (j := 1) rfl (.int .u8 y.cl)).set (j := 2) rfl (.int .i32 y.ot)).set (j := 3) rfl (.int .u8 y.sd)).set (j := 4) rfl (.int .i32 y.tw)).set (j := 5) rfl (.int .i32 y.mi)).set (j := 6) rfl (.bool y.tu)
      exact b1.trans (F.below b1.size (fun i hi e => by omega))
  obtain ⟨e0, e1, e2, e3, e4, e5, e6, ef, el⟩ : W1.cell? ⟨w.heap.size + 1, 0, none⟩ = some (.int .i32 0) ∧ W1.cell? ⟨w.heap.size + 1, 1, none⟩ = some (.int .u8 0) ∧ W1.cell? ⟨w.heap.size + 1, 2, none⟩ = some (.int .i32 0) ∧ W1.cell? ⟨w.heap.size + 1, 3, none⟩ = some (.int .u8 0) ∧ W1.cell? ⟨w.heap.size + 1, 4, none⟩ = some (.int .i32 0) ∧ W1.cell? ⟨w.heap.size + 1, 5, none⟩ = some (.int .i32 0) ∧ W1.cell? ⟨w.heap.size + 1, 6, none⟩ = some (.bool false) ∧ (∀ j, W1.frozen? ⟨w.heap.size + 1, j, none⟩ = false) ∧ w.heap.size + 1 < W1.heap.size :=
    ⟨X4.cell 0, X4.cell 1, X4.cell 2, X4.cell 3, X4.cell 4, X4.cell 5, X4.cell 6, X4.frozen, X4.lt⟩
  have FIN := Lib.hid fin
  clear fin
  go_enter Tryd.func54, Tryd.ntmps54
  go_upto_region 1 with (fail)
  rw [HW1.out]
  go_wp2
  go_loopg [6] n (fun gk iv wr => ∃ i : Nat, i + gk = n ∧ iv = .int .i64 i ∧ atL L r = atL (L.drop i) r ∧ wr = W1)
  case atStart => exact ⟨0, by omega, rfl, rfl, rfl⟩
  case round =>
    obtain ⟨i, hi, rfl, hat, rfl⟩ := hrel
    have HI := Lib.hid hi
    have HAT := Lib.hid hat
    clear hi hat
    by_cases hlt : i < n
    · obtain ⟨x, hx⟩ : ∃ x, L[i]? = some x := ⟨_, List.getElem?_eq_getElem (by have := HN.out; omega)⟩
      obtain ⟨ab, off, rfl, a1, a2, hc⟩ := hR1.at_ encK hx (by omega)
      have c0 := hc 0 _ rfl
      have c1 := hc 1 _ rfl
      have c2 := hc 2 _ rfl
      have c3 := hc 3 _ rfl
      have c4 := hc 4 _ rfl
      have c5 := hc 5 _ rfl
      have c6 := hc 6 _ rfl
      rw [Nat.add_zero] at c0
      rw [← Nat.add_assoc] at c1 c2 c3 c4 c5 c6
      have hst := atL_drop (r := r) hx
      have HST := Lib.hid hst
      clear hst hc hx
      by_cases hk : x.r = r
      · subst hk
        have hkk : (x.r == x.r) = true := by simp
        have he : atL L x.r = some x := by rw [HAT.out, HST.out, if_pos rfl]
        have HE := Lib.hid he
        clear he
        go_wp2
        rw [HE.out]
        obtain ⟨W2, q1, q2, q3⟩ := FIN.out x
        rw [q1]
        exact bodyPost_ret (results_row1 rfl _ _ (w.heap.size + 1) 53 #[.int .i32 x.r, .int .u8 x.cl, .int .i32 x.ot, .int .u8 x.sd, .int .i32 x.tw, .int .i32 x.mi, .bool x.tu] _ rfl q2 Tryd.underlying53 rfl (by kernel_rfl)) rfl ⟨rfl, q3⟩
      · have hkk : (x.r == r) = false := by simpa using hk
        go_wp2
        go_roundg (n - (i + 1))
        case rel => exact ⟨i + 1, by omega, by go_num, by rw [HAT.out, HST.out, if_neg hk], rfl⟩
        case measure => have := HI.out; omega
    · have he : atL L r = none := by rw [HAT.out, List.drop_eq_nil_of_le (by have := HN.out; omega)]; rfl
      have HE := Lib.hid he
      clear he
      go_wp2
      rw [HE.out]
      obtain ⟨W2, q1, q2, q3⟩ := FIN.out Chr.zero
      simp only [Chr.zero] at q1 q2 q3
      rw [q1]
      exact bodyPost_ret (results_row1 rfl _ _ (w.heap.size + 1) 53 #[.int .i32 0, .int .u8 0, .int .i32 0, .int .u8 0, .int .i32 0, .int .i32 0, .bool false] _ rfl q2 Tryd.underlying53 rfl (by kernel_rfl)) rfl ⟨rfl, q3⟩

set_option maxRecDepth 100000 in
set_option maxHeartbeats 2000000 in
theorem brack_ok {w : World} {B : Nat} {pv : Value} {rest : Int} {L : List Chr} (r : Int) (h : PropsIs w B pv rest L) :
    Calls Tryd.prog 28 #[pv, .int .i32 r] w fun e w' => e = .returned (.tuple #[.int .i32 (brL L r).1, .int .u8 (brL L r).2]) ∧ Below w.heap.size w w' := by
  have CT : ∀ W, Frm (fun _ => False) w W → Calls Tryd.prog 54 #[pv, .int .i32 r] W fun e w' => e = .returned (.tuple #[.agg (chC ((atL L r).getD Chr.zero)).toArray, .bool (atL L r).isSome]) ∧ Below W.heap.size W w' := fun W hF => pat_ok r (h.frm hF)
  obtain ⟨A, c, rfl, hR, hm⟩ := h
  have hbr : brL L r = if ((atL L r).getD Chr.zero).sd = 1 ∨ ((atL L r).getD Chr.zero).sd = 2 then (((atL L r).getD Chr.zero).ot, ((atL L r).getD Chr.zero).sd) else (0, 0) := by
    unfold brL; cases atL L r <;> rfl
  obtain ⟨x, hx⟩ : ∃ x, (atL L r).getD Chr.zero = x := ⟨_, rfl⟩
  obtain ⟨b, hb⟩ : ∃ b, (atL L r).isSome = b := ⟨_, rfl⟩
  rw [hx, hb] at CT
  rw [hx] at hbr
  rw [hbr]
  obtain ⟨n, hn⟩ : ∃ n, L.length = n := ⟨_, rfl⟩
  rw [hn] at CT ⊢
  simp only [chC] at CT
  have F1 : Frm (fun _ => False) w (w.alloc (.cells #[.int .u8 rest, .slice A n c] 25)) := (Frm.refl _ w).alloc _
  have CT1 := CT _ F1
  clear hx hb hbr hn CT
  by_cases h1 : x.sd = 1
  · obtain ⟨a1, a2, a3, a4, a5, a6, a7⟩ := x
    simp only at h1 CT1
    subst h1
    rw [if_pos (.inl rfl)]
    go_enter Tryd.func28, Tryd.ntmps28
    go_wp2_with (go_at_call 54; refine CT1.mono ?_; rintro e1 w1 ⟨rfl, b1⟩)
    go_quiet (fail)
    go_wp2
    go_ret2
    exact ⟨rfl, below_drewN (((Below.refl _ w).alloc (Nat.le_refl _) _).trans (b1.mono (by simp)) |>.alloc (by have := b1.size; simp at this; omega) _) _⟩
  · by_cases h2 : x.sd = 2
    · obtain ⟨a1, a2, a3, a4, a5, a6, a7⟩ := x
      simp only at h2 CT1
      subst h2
      rw [if_pos (.inr rfl)]
      go_enter Tryd.func28, Tryd.ntmps28
      go_wp2_with (go_at_call 54; refine CT1.mono ?_; rintro e1 w1 ⟨rfl, b1⟩)
      go_quiet (fail)
      go_wp2
      go_ret2
      exact ⟨rfl, below_drewN (((Below.refl _ w).alloc (Nat.le_refl _) _).trans (b1.mono (by simp)) |>.alloc (by have := b1.size; simp at this; omega) _) _⟩
    · rw [if_neg (by omega)]
      have hn1 : (x.sd != 1) = true := by simpa using h1
      have hn2 : (x.sd != 2) = true := by simpa using h2
      go_enter Tryd.func28, Tryd.ntmps28
      go_wp2_with (go_at_call 54; refine CT1.mono ?_; rintro e1 w1 ⟨rfl, b1⟩)
      go_ret2
      exact ⟨rfl, ((((Below.refl _ w).alloc (Nat.le_refl _) _).trans (b1.mono (by simp))).alloc (by have := b1.size; simp at this; omega) _)⟩

set_option maxRecDepth 100000 in
set_option maxHeartbeats 2000000 in
theorem pclass_ok {w : World} {B : Nat} {pv : Value} {rest : Int} {L : List Chr} (r : Int) (h : PropsIs w B pv rest L) :
    Calls Tryd.prog 30 #[pv, .int .i32 r] w fun e w' => e = .returned (.int .u8 (cpL rest L r)) ∧ Below w.heap.size w w' := by
  have CT : ∀ W, Frm (fun _ => False) w W → Calls Tryd.prog 54 #[pv, .int .i32 r] W fun e w' => e = .returned (.tuple #[.agg (chC ((atL L r).getD Chr.zero)).toArray, .bool (atL L r).isSome]) ∧ Below W.heap.size W w' := fun W hF => pat_ok r (h.frm hF)
  obtain ⟨A, c, rfl, hR, hm⟩ := h
  obtain ⟨n, hn⟩ : ∃ n, L.length = n := ⟨_, rfl⟩
  rw [hn] at CT ⊢
  simp only [chC] at CT
  have F1 : Frm (fun _ => False) w (w.alloc (.cells #[.int .u8 rest, .slice A n c] 25)) := (Frm.refl _ w).alloc _
  have CT1 := CT _ F1
  unfold cpL
  clear CT hn
  obtain ⟨o, ho⟩ : ∃ o, atL L r = o := ⟨_, rfl⟩
  rw [ho] at CT1 ⊢
  clear ho
  rcases o with _ | x
  · simp only [Option.getD_none, Option.isSome_none, Chr.zero] at CT1
    go_enter Tryd.func30, Tryd.ntmps30
    go_wp2_with (go_at_call 54; refine CT1.mono ?_; rintro e1 w1 ⟨rfl, b1⟩; have hc := (Blk.new w 25 #[.int .u8 rest, .slice A n c]).below b1 (by simp); obtain ⟨y0, y1, yf, yl⟩ := hc.c2)
    go_ret
    exact ⟨rfl, ((((Below.refl _ w).alloc (Nat.le_refl _) _).trans (b1.mono (by simp))).alloc (by have := b1.size; simp at this; omega) _)⟩
  · simp only [Option.getD_some, Option.isSome_some] at CT1
    go_enter Tryd.func30, Tryd.ntmps30
    go_wp2_with (go_at_call 54; refine CT1.mono ?_; rintro e1 w1 ⟨rfl, b1⟩)
    go_ret
    exact ⟨rfl, ((((Below.refl _ w).alloc (Nat.le_refl _) _).trans (b1.mono (by simp))).alloc (by have := b1.size; simp at this; omega) _)⟩
set_option maxRecDepth 100000 in
set_option maxHeartbeats 2000000 in
theorem twin_ok {w : World} {B : Nat} {pv : Value} {rest : Int} {L : List Chr} (r : Int) (h : PropsIs w B pv rest L) :
    Calls Tryd.prog 31 #[pv, .int .i32 r] w fun e w' => e = .returned (.int .i32 (twL L r)) ∧ Below w.heap.size w w' := by
  have CT : ∀ W, Frm (fun _ => False) w W → Calls Tryd.prog 54 #[pv, .int .i32 r] W fun e w' => e = .returned (.tuple #[.agg (chC ((atL L r).getD Chr.zero)).toArray, .bool (atL L r).isSome]) ∧ Below W.heap.size W w' := fun W hF => pat_ok r (h.frm hF)
  obtain ⟨A, c, rfl, hR, hm⟩ := h
  obtain ⟨n, hn⟩ : ∃ n, L.length = n := ⟨_, rfl⟩
  rw [hn] at CT ⊢
  simp only [chC] at CT
  have F1 : Frm (fun _ => False) w (w.alloc (.cells #[.int .u8 rest, .slice A n c] 25)) := (Frm.refl _ w).alloc _
  have CT1 := CT _ F1
  unfold twL
  clear CT hn
  obtain ⟨o, ho⟩ : ∃ o, atL L r = o := ⟨_, rfl⟩
  rw [ho] at CT1 ⊢
  clear ho
  rcases o with _ | x
  · simp only [Option.getD_none, Option.isSome_none, Chr.zero] at CT1
    go_enter Tryd.func31, Tryd.ntmps31
    go_wp2_with (go_at_call 54; refine CT1.mono ?_; rintro e1 w1 ⟨rfl, b1⟩)
    go_ret
    exact ⟨rfl, ((((Below.refl _ w).alloc (Nat.le_refl _) _).trans (b1.mono (by simp))).alloc (by have := b1.size; simp at this; omega) _)⟩
  · simp only [Option.getD_some, Option.isSome_some] at CT1
    obtain ⟨a1, a2, a3, a4, a5, a6, a7⟩ := x
    simp only at CT1 ⊢
    by_cases h0 : a5 = 0
    · subst h0
      rw [if_pos rfl]
      go_enter Tryd.func31, Tryd.ntmps31
      go_wp2_with (go_at_call 54; refine CT1.mono ?_; rintro e1 w1 ⟨rfl, b1⟩)
      go_ret
      exact ⟨rfl, ((((Below.refl _ w).alloc (Nat.le_refl _) _).trans (b1.mono (by simp))).alloc (by have := b1.size; simp at this; omega) _)⟩
    · rw [if_neg h0]
      have h00 : (a5 == 0) = false := by simpa using h0
      go_enter Tryd.func31, Tryd.ntmps31
      go_wp2_with (go_at_call 54; refine CT1.mono ?_; rintro e1 w1 ⟨rfl, b1⟩)
      go_ret
      exact ⟨rfl, ((((Below.refl _ w).alloc (Nat.le_refl _) _).trans (b1.mono (by simp))).alloc (by have := b1.size; simp at this; omega) _)⟩

def runC (r : Int) : Int := if r < 0 ∨ 1114111 < r then 65533 else r
set_option maxRecDepth 100000 in
theorem rRune_ok (w : World) (r : Int) : Calls Tryd.prog 71 #[.int .i32 r] w fun e w' => e = .returned (.int .i32 (runC r)) ∧ w' = w := by
  unfold runC
  by_cases h1 : r < 0
  · rw [if_pos (.inl h1)]
    go_enter Tryd.func71, Tryd.ntmps71
    go_wp2
    go_ret
    exact ⟨rfl, rfl⟩
  · by_cases h2 : 1114111 < r
    · rw [if_pos (.inr h2)]
      go_enter Tryd.func71, Tryd.ntmps71
      go_wp2
      go_ret
      exact ⟨rfl, rfl⟩
    · rw [if_neg (by omega)]
      go_enter Tryd.func71, Tryd.ntmps71
      go_wp2
      go_ret
      exact ⟨rfl, rfl⟩
theorem Reads.clip {w : World} {B size n : Nat} {A : Option Addr} {xs : List Value} (h : Reads w B size A n xs) : Reads w w.heap.size size A n xs :=
  ⟨h.1, fun h0 => by obtain ⟨b, off, e, _, h2, h3⟩ := h.2 h0; exact ⟨b, off, e, h2, h2, h3⟩⟩
theorem RdInts.clip {w : World} {B : Nat} {k : IntKind} {A : Option Addr} {l : List Int} (h : RdInts w B k A l) : RdInts w w.heap.size k A l := Reads.clip h
theorem RdR.clip {α : Type} {c : α → List Value} {sz : Nat} {w : World} {B : Nat} {A : Option Addr} {l : List α} (h : RdR c sz w B A l) : RdR c sz w w.heap.size A l := Reads.clip h
theorem PropsIs.clip {w : World} {B : Nat} {pv : Value} {rest : Int} {L : List Chr} (h : PropsIs w B pv rest L) : PropsIs w w.heap.size pv rest L := by
  obtain ⟨A, c, h1, h2, h3⟩ := h
  exact ⟨A, c, h1, h2.clip, h3⟩

def clsC (c : Int) : Int := if c < 1 then 14 else if 23 < c then 14 else c
set_option maxRecDepth 100000 in
theorem rClass_ok (w : World) (c : Int) : Calls Tryd.prog 29 #[.int .u8 c] w fun r w' => r = .returned (.int .u8 (clsC c)) ∧ w = w' := by
  go_enter Tryd.func29, Tryd.ntmps29
  go_wp2
  all_goals (go_ret; refine ⟨congrArg (fun z => Ending.returned (Value.int .u8 z)) ?_, rfl⟩; unfold clsC; (repeat' split) <;> omega)
set_option maxRecDepth 100000 in
theorem known_ok (w : World) (c : Int) : Calls Tryd.prog 55 #[.int .u8 c] w fun r w' => r = .returned (.int .u8 (clsC c)) ∧ w' = w := by
  go_enter Tryd.func55, Tryd.ntmps55
  go_wp2
  all_goals (go_ret; refine ⟨congrArg (fun z => Ending.returned (Value.int .u8 z)) ?_, rfl⟩; unfold clsC; (repeat' split) <;> omega)
set_option maxRecDepth 100000 in
theorem asked_ok (w : World) (c : Int) : Calls Tryd.prog 56 #[.int .i32 c] w fun r w' => r = .returned (.int .i32 (runC c)) ∧ w' = w := by
  go_enter Tryd.func56, Tryd.ntmps56
  go_wp2
  all_goals (go_ret; refine ⟨congrArg (fun z => Ending.returned (Value.int .i32 z)) ?_, rfl⟩; unfold runC; (repeat' split) <;> omega)


def mayC (rest : Int) (ch : List Chr) (r : Int) : Bool :=
  if (brL ch r).2 = 0 then true
  else if (brL ch (brL ch r).1).2 = 0 then false
  else if (brL ch (brL ch r).1).2 = (brL ch r).2 then false
  else if (brL ch (brL ch r).1).1 ≠ r then false
  else if clsC (cpL rest ch r) ≠ 14 then false
  else if (brL ch (twL ch r)).2 ≠ (brL ch r).2 then false
  else if twL ch (twL ch r) ≠ twL ch r then false
  else if (brL ch (twL ch r)).1 ≠ twL ch (brL ch r).1 then false
  else true
/-- Props that may be. -/
def mayP (rest : Int) (ch : List Chr) : Bool := ch.all fun x => mayC rest ch x.r
theorem mayP_at {rest : Int} {ch : List Chr} (h : mayP rest ch = true) : ∀ x ∈ ch, mayC rest ch x.r = true := fun x hx => List.all_eq_true.1 h x hx
theorem mayP_no {rest : Int} {ch : List Chr} {i : Nat} {x : Chr} (hx : ch[i]? = some x) (h : mayC rest ch x.r = false) : mayP rest ch = false := by
  rcases hp : mayP rest ch with _ | _
  · rfl
  · have := mayP_at hp x (List.mem_of_getElem? hx); rw [h] at this; cases this
theorem mayP_yes {rest : Int} {ch : List Chr} (h : ∀ (i : Nat) (x : Chr), ch[i]? = some x → mayC rest ch x.r = true) : mayP rest ch = true := by
  refine List.all_eq_true.2 fun x hx => ?_
  obtain ⟨i, hi⟩ := List.getElem?_of_mem hx
  exact h i x hi

set_option maxRecDepth 100000 in
set_option maxHeartbeats 4000000 in
theorem May_ok {w : World} {B : Nat} {pv : Value} {rest : Int} {ch : List Chr} (hP : PropsIs w B pv rest ch) :
    Calls Tryd.prog 10 #[pv] w fun e w' => e = .returned (.bool (mayP rest ch)) ∧ Below w.heap.size w w' := by
  replace hP := hP.clip
  have hP0 := hP
  obtain ⟨A, c, rfl, hR, hm⟩ := hP
  obtain ⟨z, hz⟩ : ∃ z, mayP rest ch = z := ⟨_, rfl⟩
  obtain ⟨n, hn⟩ : ∃ n, ch.length = n := ⟨_, rfl⟩
  rw [hz, hn]
  rw [hn] at hm hP0
  have HN := Lib.hid hn
  have HZ := Lib.hid hz
  clear hn hz
  obtain ⟨W1, hW1⟩ : ∃ W1, w.alloc (.cells #[.int .u8 rest, .slice A n c] 25) = W1 := ⟨_, rfl⟩
  have bW : Below w.heap.size w W1 := by rw [← hW1]; exact (Below.refl _ w).alloc (Nat.le_refl _) _
  have X : Blk W1 w.heap.size 25 #[.int .u8 rest, .slice A n c] := by rw [← hW1]; exact Blk.new w 25 _
  have hP1 := hP0.below bW (.inl (Nat.le_refl _))
  have hR1 := hR.below bW (.inl (Nat.le_refl _))
  have HW1 := Lib.hid hW1
  have hwW : w.heap.size ≤ W1.heap.size := bW.size
  clear hW1 hP0 hR
  go_enter Tryd.func10, Tryd.ntmps10
  go_upto_region 1 with (fail)
  rw [HW1.out]
  go_wp2
  go_loopg [3] n (fun gk iv wr => ∃ i : Nat, i + gk = n ∧ iv = .int .i64 i ∧ (∀ (j : Nat) (x : Chr), j < i → ch[j]? = some x → mayC rest ch x.r = true) ∧ Aft W1 wr)
  case atStart => exact ⟨0, by omega, rfl, fun j x h => by omega, Aft.refl _⟩
  case round =>
    obtain ⟨i, hi, rfl, hall, bb⟩ := hrel
    have HI := Lib.hid hi
    have HALL := Lib.hid hall
    clear hi hall
    have Xw := X.aft bb
    obtain ⟨y0, y1, yf, yl⟩ := Xw.c2
    by_cases hlt : i < n
    · obtain ⟨x, hx⟩ : ∃ x, ch[i]? = some x := ⟨_, List.getElem?_eq_getElem (by have := HN.out; omega)⟩
      have hPw := hP1.below bb (.inr (Nat.le_refl _))
      obtain ⟨ab, off, rfl, a1, a2, hc⟩ := (hR1.below bb (.inr (Nat.le_refl _))).at_ encK hx (by omega)
      have c0 := hc 0 _ rfl
      rw [Nat.add_zero] at c0
      have HX := Lib.hid hx
      clear hx hc
      obtain ⟨r, hr⟩ : ∃ r, x.r = r := ⟨_, rfl⟩
      rw [hr] at c0
      have hC : mayC rest ch r = if (brL ch r).2 = 0 then true
        else if (brL ch (brL ch r).1).2 = 0 then false
        else if (brL ch (brL ch r).1).2 = (brL ch r).2 then false
        else if (brL ch (brL ch r).1).1 ≠ r then false
        else if clsC (cpL rest ch r) ≠ 14 then false
        else if (brL ch (twL ch r)).2 ≠ (brL ch r).2 then false
        else if twL ch (twL ch r) ≠ twL ch r then false
        else if (brL ch (twL ch r)).1 ≠ twL ch (brL ch r).1 then false
        else true := rfl
      obtain ⟨v, hv⟩ : ∃ v, mayC rest ch r = v := ⟨_, rfl⟩
      rw [hv] at hC
      have hno : v = false → z = false := fun h => by rw [← HZ.out]; exact mayP_no HX.out (by rw [hr, hv, h])
      have hyes : v = true → ∀ (j : Nat) (y : Chr), j < i + 1 → ch[j]? = some y → mayC rest ch y.r = true := by
        intro h j y hj hy
        by_cases hji : j = i
        · subst hji
          rw [HX.out] at hy
          cases hy
          rw [hr, hv, h]
        · exact HALL.out j y (by omega) hy
      have HNO := Lib.hid hno
      have HYES := Lib.hid hyes
      clear hno hyes hv
      obtain ⟨ot, hot⟩ : ∃ ot, (brL ch r).1 = ot := ⟨_, rfl⟩
      obtain ⟨sd, hsd⟩ : ∃ sd, (brL ch r).2 = sd := ⟨_, rfl⟩
      obtain ⟨tw, htw⟩ : ∃ tw, twL ch r = tw := ⟨_, rfl⟩
      rw [hot, hsd, htw] at hC
      obtain ⟨bk, hbk⟩ : ∃ bk, (brL ch ot).1 = bk := ⟨_, rfl⟩
      obtain ⟨fa, hfa⟩ : ∃ fa, (brL ch ot).2 = fa := ⟨_, rfl⟩
      obtain ⟨it, hit⟩ : ∃ it, (brL ch tw).1 = it := ⟨_, rfl⟩
      obtain ⟨sm, hsm⟩ : ∃ sm, (brL ch tw).2 = sm := ⟨_, rfl⟩
      obtain ⟨t2, ht2⟩ : ∃ t2, twL ch tw = t2 := ⟨_, rfl⟩
      obtain ⟨t3, ht3⟩ : ∃ t3, twL ch ot = t3 := ⟨_, rfl⟩
      obtain ⟨cp, hcp⟩ : ∃ cp, cpL rest ch r = cp := ⟨_, rfl⟩
      rw [hcp] at hC
      obtain ⟨cl, hcl⟩ : ∃ cl, clsC cp = cl := ⟨_, rfl⟩
      rw [hbk, hfa, hit, hsm, ht2, ht3, hcl] at hC
      have P1 : ∀ W, Aft wr W → Calls Tryd.prog 28 #[.agg #[.int .u8 rest, .slice (some ⟨ab, off, none⟩) n c], .int .i32 r] W fun e w' => e = .returned (.tuple #[.int .i32 ot, .int .u8 sd]) ∧ Below W.heap.size W w' := fun W hb => by rw [← hot, ← hsd]; exact brack_ok r (hPw.below hb (.inr (Nat.le_refl _)))
      have P2 : ∀ W, Aft wr W → Calls Tryd.prog 28 #[.agg #[.int .u8 rest, .slice (some ⟨ab, off, none⟩) n c], .int .i32 ot] W fun e w' => e = .returned (.tuple #[.int .i32 bk, .int .u8 fa]) ∧ Below W.heap.size W w' := fun W hb => by rw [← hbk, ← hfa]; exact brack_ok ot (hPw.below hb (.inr (Nat.le_refl _)))
      have P3 : ∀ W, Aft wr W → Calls Tryd.prog 28 #[.agg #[.int .u8 rest, .slice (some ⟨ab, off, none⟩) n c], .int .i32 tw] W fun e w' => e = .returned (.tuple #[.int .i32 it, .int .u8 sm]) ∧ Below W.heap.size W w' := fun W hb => by rw [← hit, ← hsm]; exact brack_ok tw (hPw.below hb (.inr (Nat.le_refl _)))
      have Q1 : ∀ W, Aft wr W → Calls Tryd.prog 31 #[.agg #[.int .u8 rest, .slice (some ⟨ab, off, none⟩) n c], .int .i32 r] W fun e w' => e = .returned (.int .i32 tw) ∧ Below W.heap.size W w' := fun W hb => by rw [← htw]; exact twin_ok r (hPw.below hb (.inr (Nat.le_refl _)))
      have Q2 : ∀ W, Aft wr W → Calls Tryd.prog 31 #[.agg #[.int .u8 rest, .slice (some ⟨ab, off, none⟩) n c], .int .i32 tw] W fun e w' => e = .returned (.int .i32 t2) ∧ Below W.heap.size W w' := fun W hb => by rw [← ht2]; exact twin_ok tw (hPw.below hb (.inr (Nat.le_refl _)))
      have Q3 : ∀ W, Aft wr W → Calls Tryd.prog 31 #[.agg #[.int .u8 rest, .slice (some ⟨ab, off, none⟩) n c], .int .i32 ot] W fun e w' => e = .returned (.int .i32 t3) ∧ Below W.heap.size W w' := fun W hb => by rw [← ht3]; exact twin_ok ot (hPw.below hb (.inr (Nat.le_refl _)))
      have C1 : ∀ W, Aft wr W → Calls Tryd.prog 30 #[.agg #[.int .u8 rest, .slice (some ⟨ab, off, none⟩) n c], .int .i32 r] W fun e w' => e = .returned (.int .u8 cp) ∧ Below W.heap.size W w' := fun W hb => by rw [← hcp]; exact pclass_ok r (hPw.below hb (.inr (Nat.le_refl _)))
      have C2 : ∀ W, Calls Tryd.prog 29 #[.int .u8 cp] W fun e w' => e = .returned (.int .u8 cl) ∧ W = w' := fun W => by rw [← hcl]; exact rClass_ok W cp
      have HC := Lib.hid hC
      have a0 : Aft wr wr := Aft.refl wr
      clear hot hsd htw hbk hfa hit hsm ht2 ht3 hcp hcl hC hr
      by_cases g0 : sd = 0
      case pos =>
        have e0a : (sd == 0) = true := by simpa using g0
        have e0b : (sd != 0) = false := by simpa using g0
        have hv : v = true := by rw [HC.out, if_pos g0]
        go_wp2_with fail
        refine (P1 _ a0).mono ?_
        rintro r1 w1 ⟨rfl, b1⟩
        have a1 := Aft.trans a0 b1
        obtain ⟨y10, y11, y1f, y1l⟩ := (Xw.aft a1).c2
        go_wp2
        go_roundg (n - (i + 1))
        case rel => exact ⟨i + 1, by have := HI.out; omega, by go_num, HYES.out hv, bb.trans a1⟩
        case measure => have := HI.out; omega
      have e0a : (sd == 0) = false := by simpa using g0
      have e0b : (sd != 0) = true := by simpa using g0
      by_cases g1 : fa = 0
      case pos =>
        have e1a : (fa == 0) = true := by simpa using g1
        have e1b : (fa != 0) = false := by simpa using g1
        have hz := HNO.out (by rw [HC.out, if_neg g0, if_pos g1])
        subst hz
        go_wp2_with fail
        refine (P1 _ a0).mono ?_
        rintro r1 w1 ⟨rfl, b1⟩
        have a1 := Aft.trans a0 b1
        obtain ⟨y10, y11, y1f, y1l⟩ := (Xw.aft a1).c2
        go_wp2_with fail
        refine (P2 _ a1).mono ?_
        rintro r2 w2 ⟨rfl, b2⟩
        have a2 := Aft.trans a1 b2
        obtain ⟨y20, y21, y2f, y2l⟩ := (Xw.aft a2).c2
        go_wp2
        go_ret
        exact ⟨rfl, bW.trans ((bb.trans a2).mono hwW)⟩
      have e1a : (fa == 0) = false := by simpa using g1
      have e1b : (fa != 0) = true := by simpa using g1
      by_cases g2 : fa = sd
      case pos =>
        have e2a : (fa == sd) = true := by simpa using g2
        have e2b : (fa != sd) = false := by simpa using g2
        have hz := HNO.out (by rw [HC.out, if_neg g0, if_neg g1, if_pos g2])
        subst hz
        go_wp2_with fail
        refine (P1 _ a0).mono ?_
        rintro r1 w1 ⟨rfl, b1⟩
        have a1 := Aft.trans a0 b1
        obtain ⟨y10, y11, y1f, y1l⟩ := (Xw.aft a1).c2
        go_wp2_with fail
        refine (P2 _ a1).mono ?_
        rintro r2 w2 ⟨rfl, b2⟩
        have a2 := Aft.trans a1 b2
        obtain ⟨y20, y21, y2f, y2l⟩ := (Xw.aft a2).c2
        go_wp2
        go_ret
        exact ⟨rfl, bW.trans ((bb.trans a2).mono hwW)⟩
      have e2a : (fa == sd) = false := by simpa using g2
      have e2b : (fa != sd) = true := by simpa using g2
      by_cases g3 : bk = r
      case neg =>
        have e3a : (bk == r) = false := by simpa using g3
        have e3b : (bk != r) = true := by simpa using g3
        have hz := HNO.out (by rw [HC.out, if_neg g0, if_neg g1, if_neg g2, if_pos (by simpa using g3)])
        subst hz
        go_wp2_with fail
        refine (P1 _ a0).mono ?_
        rintro r1 w1 ⟨rfl, b1⟩
        have a1 := Aft.trans a0 b1
        obtain ⟨y10, y11, y1f, y1l⟩ := (Xw.aft a1).c2
        go_wp2_with fail
        refine (P2 _ a1).mono ?_
        rintro r2 w2 ⟨rfl, b2⟩
        have a2 := Aft.trans a1 b2
        obtain ⟨y20, y21, y2f, y2l⟩ := (Xw.aft a2).c2
        go_wp2
        go_ret
        exact ⟨rfl, bW.trans ((bb.trans a2).mono hwW)⟩
      have e3a : (bk == r) = true := by simpa using g3
      have e3b : (bk != r) = false := by simpa using g3
      by_cases g4 : cl = 14
      case neg =>
        have e4a : (cl == 14) = false := by simpa using g4
        have e4b : (cl != 14) = true := by simpa using g4
        have hz := HNO.out (by rw [HC.out, if_neg g0, if_neg g1, if_neg g2, if_neg (by simpa using g3), if_pos (by simpa using g4)])
        subst hz
        go_wp2_with fail
        refine (P1 _ a0).mono ?_
        rintro r1 w1 ⟨rfl, b1⟩
        have a1 := Aft.trans a0 b1
        obtain ⟨y10, y11, y1f, y1l⟩ := (Xw.aft a1).c2
        go_wp2_with fail
        refine (P2 _ a1).mono ?_
        rintro r2 w2 ⟨rfl, b2⟩
        have a2 := Aft.trans a1 b2
        obtain ⟨y20, y21, y2f, y2l⟩ := (Xw.aft a2).c2
        go_wp2_with fail
        refine (C1 _ a2).mono ?_
        rintro r3 w3 ⟨rfl, b3⟩
        have a3 := Aft.trans a2 b3
        obtain ⟨y30, y31, y3f, y3l⟩ := (Xw.aft a3).c2
        go_wp2_with fail
        refine (C2 _).mono ?_
        rintro rc wc ⟨rfl, rfl⟩
        go_wp2
        go_ret
        exact ⟨rfl, bW.trans ((bb.trans a3).mono hwW)⟩
      have e4a : (cl == 14) = true := by simpa using g4
      have e4b : (cl != 14) = false := by simpa using g4
      by_cases g5 : sm = sd
      case neg =>
        have e5a : (sm == sd) = false := by simpa using g5
        have e5b : (sm != sd) = true := by simpa using g5
        have hz := HNO.out (by rw [HC.out, if_neg g0, if_neg g1, if_neg g2, if_neg (by simpa using g3), if_neg (by simpa using g4), if_pos (by simpa using g5)])
        subst hz
        go_wp2_with fail
        refine (P1 _ a0).mono ?_
        rintro r1 w1 ⟨rfl, b1⟩
        have a1 := Aft.trans a0 b1
        obtain ⟨y10, y11, y1f, y1l⟩ := (Xw.aft a1).c2
        go_wp2_with fail
        refine (P2 _ a1).mono ?_
        rintro r2 w2 ⟨rfl, b2⟩
        have a2 := Aft.trans a1 b2
        obtain ⟨y20, y21, y2f, y2l⟩ := (Xw.aft a2).c2
        go_wp2_with fail
        refine (C1 _ a2).mono ?_
        rintro r3 w3 ⟨rfl, b3⟩
        have a3 := Aft.trans a2 b3
        obtain ⟨y30, y31, y3f, y3l⟩ := (Xw.aft a3).c2
        go_wp2_with fail
        refine (C2 _).mono ?_
        rintro rc wc ⟨rfl, rfl⟩
        go_wp2_with fail
        refine (Q1 _ a3).mono ?_
        rintro r4 w4 ⟨rfl, b4⟩
        have a4 := Aft.trans a3 b4
        obtain ⟨y40, y41, y4f, y4l⟩ := (Xw.aft a4).c2
        go_wp2_with fail
        refine (P3 _ a4).mono ?_
        rintro r5 w5 ⟨rfl, b5⟩
        have a5 := Aft.trans a4 b5
        obtain ⟨y50, y51, y5f, y5l⟩ := (Xw.aft a5).c2
        go_wp2
        go_ret
        exact ⟨rfl, bW.trans ((bb.trans a5).mono hwW)⟩
      have e5a : (sm == sd) = true := by simpa using g5
      have e5b : (sm != sd) = false := by simpa using g5
      by_cases g6 : t2 = tw
      case neg =>
        have e6a : (t2 == tw) = false := by simpa using g6
        have e6b : (t2 != tw) = true := by simpa using g6
        have hz := HNO.out (by rw [HC.out, if_neg g0, if_neg g1, if_neg g2, if_neg (by simpa using g3), if_neg (by simpa using g4), if_neg (by simpa using g5), if_pos (by simpa using g6)])
        subst hz
        go_wp2_with fail
        refine (P1 _ a0).mono ?_
        rintro r1 w1 ⟨rfl, b1⟩
        have a1 := Aft.trans a0 b1
        obtain ⟨y10, y11, y1f, y1l⟩ := (Xw.aft a1).c2
        go_wp2_with fail
        refine (P2 _ a1).mono ?_
        rintro r2 w2 ⟨rfl, b2⟩
        have a2 := Aft.trans a1 b2
        obtain ⟨y20, y21, y2f, y2l⟩ := (Xw.aft a2).c2
        go_wp2_with fail
        refine (C1 _ a2).mono ?_
        rintro r3 w3 ⟨rfl, b3⟩
        have a3 := Aft.trans a2 b3
        obtain ⟨y30, y31, y3f, y3l⟩ := (Xw.aft a3).c2
        go_wp2_with fail
        refine (C2 _).mono ?_
        rintro rc wc ⟨rfl, rfl⟩
        go_wp2_with fail
        refine (Q1 _ a3).mono ?_
        rintro r4 w4 ⟨rfl, b4⟩
        have a4 := Aft.trans a3 b4
        obtain ⟨y40, y41, y4f, y4l⟩ := (Xw.aft a4).c2
        go_wp2_with fail
        refine (P3 _ a4).mono ?_
        rintro r5 w5 ⟨rfl, b5⟩
        have a5 := Aft.trans a4 b5
        obtain ⟨y50, y51, y5f, y5l⟩ := (Xw.aft a5).c2
        go_wp2_with fail
        refine (Q2 _ a5).mono ?_
        rintro r6 w6 ⟨rfl, b6⟩
        have a6 := Aft.trans a5 b6
        obtain ⟨y60, y61, y6f, y6l⟩ := (Xw.aft a6).c2
        go_wp2
        go_ret
        exact ⟨rfl, bW.trans ((bb.trans a6).mono hwW)⟩
      have e6a : (t2 == tw) = true := by simpa using g6
      have e6b : (t2 != tw) = false := by simpa using g6
      by_cases g7 : it = t3
      case neg =>
        have e7a : (it == t3) = false := by simpa using g7
        have e7b : (it != t3) = true := by simpa using g7
        have hz := HNO.out (by rw [HC.out, if_neg g0, if_neg g1, if_neg g2, if_neg (by simpa using g3), if_neg (by simpa using g4), if_neg (by simpa using g5), if_neg (by simpa using g6), if_pos (by simpa using g7)])
        subst hz
        go_wp2_with fail
        refine (P1 _ a0).mono ?_
        rintro r1 w1 ⟨rfl, b1⟩
        have a1 := Aft.trans a0 b1
        obtain ⟨y10, y11, y1f, y1l⟩ := (Xw.aft a1).c2
        go_wp2_with fail
        refine (P2 _ a1).mono ?_
        rintro r2 w2 ⟨rfl, b2⟩
        have a2 := Aft.trans a1 b2
        obtain ⟨y20, y21, y2f, y2l⟩ := (Xw.aft a2).c2
        go_wp2_with fail
        refine (C1 _ a2).mono ?_
        rintro r3 w3 ⟨rfl, b3⟩
        have a3 := Aft.trans a2 b3
        obtain ⟨y30, y31, y3f, y3l⟩ := (Xw.aft a3).c2
        go_wp2_with fail
        refine (C2 _).mono ?_
        rintro rc wc ⟨rfl, rfl⟩
        go_wp2_with fail
        refine (Q1 _ a3).mono ?_
        rintro r4 w4 ⟨rfl, b4⟩
        have a4 := Aft.trans a3 b4
        obtain ⟨y40, y41, y4f, y4l⟩ := (Xw.aft a4).c2
        go_wp2_with fail
        refine (P3 _ a4).mono ?_
        rintro r5 w5 ⟨rfl, b5⟩
        have a5 := Aft.trans a4 b5
        obtain ⟨y50, y51, y5f, y5l⟩ := (Xw.aft a5).c2
        go_wp2_with fail
        refine (Q2 _ a5).mono ?_
        rintro r6 w6 ⟨rfl, b6⟩
        have a6 := Aft.trans a5 b6
        obtain ⟨y60, y61, y6f, y6l⟩ := (Xw.aft a6).c2
        go_wp2_with fail
        refine (Q3 _ a6).mono ?_
        rintro r7 w7 ⟨rfl, b7⟩
        have a7 := Aft.trans a6 b7
        obtain ⟨y70, y71, y7f, y7l⟩ := (Xw.aft a7).c2
        go_wp2
        go_ret
        exact ⟨rfl, bW.trans ((bb.trans a7).mono hwW)⟩
      have e7a : (it == t3) = true := by simpa using g7
      have e7b : (it != t3) = false := by simpa using g7
      have hv : v = true := by rw [HC.out, if_neg g0, if_neg g1, if_neg g2, if_neg (by simpa using g3), if_neg (by simpa using g4), if_neg (by simpa using g5), if_neg (by simpa using g6), if_neg (by simpa using g7)]
      go_wp2_with fail
      refine (P1 _ a0).mono ?_
      rintro r1 w1 ⟨rfl, b1⟩
      have a1 := Aft.trans a0 b1
      obtain ⟨y10, y11, y1f, y1l⟩ := (Xw.aft a1).c2
      go_wp2_with fail
      refine (P2 _ a1).mono ?_
      rintro r2 w2 ⟨rfl, b2⟩
      have a2 := Aft.trans a1 b2
      obtain ⟨y20, y21, y2f, y2l⟩ := (Xw.aft a2).c2
      go_wp2_with fail
      refine (C1 _ a2).mono ?_
      rintro r3 w3 ⟨rfl, b3⟩
      have a3 := Aft.trans a2 b3
      obtain ⟨y30, y31, y3f, y3l⟩ := (Xw.aft a3).c2
      go_wp2_with fail
      refine (C2 _).mono ?_
      rintro rc wc ⟨rfl, rfl⟩
      go_wp2_with fail
      refine (Q1 _ a3).mono ?_
      rintro r4 w4 ⟨rfl, b4⟩
      have a4 := Aft.trans a3 b4
      obtain ⟨y40, y41, y4f, y4l⟩ := (Xw.aft a4).c2
      go_wp2_with fail
      refine (P3 _ a4).mono ?_
      rintro r5 w5 ⟨rfl, b5⟩
      have a5 := Aft.trans a4 b5
      obtain ⟨y50, y51, y5f, y5l⟩ := (Xw.aft a5).c2
      go_wp2_with fail
      refine (Q2 _ a5).mono ?_
      rintro r6 w6 ⟨rfl, b6⟩
      have a6 := Aft.trans a5 b6
      obtain ⟨y60, y61, y6f, y6l⟩ := (Xw.aft a6).c2
      go_wp2_with fail
      refine (Q3 _ a6).mono ?_
      rintro r7 w7 ⟨rfl, b7⟩
      have a7 := Aft.trans a6 b7
      obtain ⟨y70, y71, y7f, y7l⟩ := (Xw.aft a7).c2
      go_wp2
      go_roundg (n - (i + 1))
      case rel => exact ⟨i + 1, by have := HI.out; omega, by go_num, HYES.out hv, bb.trans a7⟩
      case measure => have := HI.out; omega
    · have hin : i = n := by have := HI.out; omega
      subst hin
      have hz : z = true := by rw [← HZ.out]; exact mayP_yes (fun j x hx => HALL.out j x (by have := (List.getElem?_eq_some_iff.1 hx).1; have := HN.out; omega) hx)
      subst hz
      go_wp2
      go_ret
      exact ⟨rfl, bW.trans (bb.mono hwW)⟩

end Go.Proofs.YtaekdnfpgkfjkaaDoor
