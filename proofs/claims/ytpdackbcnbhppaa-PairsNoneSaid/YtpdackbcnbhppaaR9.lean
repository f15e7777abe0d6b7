/- Props made by hand: what they tell. -/
import Derived.Test.YtpdackbcnbhppaaR8
import Derived.Test.YtpdackbcnbhppaaF1
namespace Go.Proofs.Ytpdackbcnbhppaa
open Go.RowKit
attribute [local go_sem] Oper.semAt_some

structure Chr where
  r : Int
  cl : Int
  ot : Int
  sd : Int
  tw : Int
  mi : Int
  tu : Bool
def Chr.zero : Chr := ⟨0, 0, 0, 0, 0, 0, false⟩
def chC (x : Chr) : List Value := [.int .i32 x.r, .int .u8 x.cl, .int .i32 x.ot, .int .u8 x.sd, .int .i32 x.tw, .int .i32 x.mi, .bool x.tu]
theorem encC : Enc chC 7 := ⟨fun _ => rfl, fun x u hu => by simp [chC] at hu; rcases hu with rfl | rfl | rfl | rfl | rfl | rfl | rfl <;> rfl⟩
/-- The first of that number. -/
def atL : List Chr → Int → Option Chr
  | [], _ => none
  | c :: L, r => if c.r = r then some c else atL L r
def brL (L : List Chr) (r : Int) : Int × Int := match atL L r with | some c => if c.sd = 1 ∨ c.sd = 2 then (c.ot, c.sd) else (0, 0) | none => (0, 0)
def twL (L : List Chr) (r : Int) : Int := match atL L r with | some c => if c.tw = 0 then r else c.tw | none => r
def cpL (rest : Int) (L : List Chr) (r : Int) : Int := match atL L r with | some c => c.cl | none => rest
/-- Props, as a value. -/
def PropsIs (W : World) (B : Nat) (pv : Value) (rest : Int) (L : List Chr) : Prop := ∃ A c, pv = .agg #[.int .u8 rest, .slice A L.length c] ∧ RdR chC 7 W B A L ∧ L.length ≤ 4611686018427387904
theorem PropsIs.below {W W' : World} {B C : Nat} {pv : Value} {rest : Int} {L : List Chr} (h : PropsIs W B pv rest L) (hb : Below C W W') (hC : B ≤ C ∨ W.heap.size ≤ C) : PropsIs W' B pv rest L := by
  obtain ⟨A, c, h1, h2, h3⟩ := h
  exact ⟨A, c, h1, h2.below hb hC, h3⟩
theorem PropsIs.frm {W W' : World} {B : Nat} {pv : Value} {rest : Int} {L : List Chr} (h : PropsIs W B pv rest L) (hF : Frm (fun _ => False) W W') : PropsIs W' B pv rest L := h.below (hF.below (Nat.le_refl _) (fun _ _ => id)) (.inr (Nat.le_refl _))
theorem PropsIs.drew {W : World} {B : Nat} {pv : Value} {rest : Int} {L : List Chr} (h : PropsIs W B pv rest L) : PropsIs W.drew B pv rest L := h
theorem atL_drop {L : List Chr} {r : Int} : ∀ {i : Nat} {x : Chr}, L[i]? = some x → atL (L.drop i) r = if x.r = r then some x else atL (L.drop (i + 1)) r := by
  intro i x h
  have hi : i < L.length := (List.getElem?_eq_some_iff.1 h).1
  have : L.drop i = x :: L.drop (i + 1) := by
    rw [List.drop_eq_getElem_cons hi]
    rw [List.getElem?_eq_getElem hi] at h
    rw [Option.some.inj h]
  rw [this]; rfl

set_option maxRecDepth 100000 in
set_option maxHeartbeats 2000000 in
theorem at_ok {w : World} {B : Nat} {pv : Value} {rest : Int} {L : List Chr} (r : Int) (h : PropsIs w B pv rest L) :
    Calls Try.prog 86 #[pv, .int .i32 r] w fun e w' => e = .returned (.tuple #[.agg (chC ((atL L r).getD Chr.zero)).toArray, .bool (atL L r).isSome]) ∧ Below w.heap.size w w' := by
  obtain ⟨A, c, rfl, hR, hm⟩ := h
  obtain ⟨n, hn⟩ : ∃ n, L.length = n := ⟨_, rfl⟩
  rw [hn] at hm ⊢
  have HN := Lib.hid hn
  clear hn
  obtain ⟨W1, hW1⟩ : ∃ W1, ((w.alloc (.cells #[.int .u8 rest, .slice A n c] 52)).alloc (.cells #[.int .i32 0, .int .u8 0, .int .i32 0, .int .u8 0, .int .i32 0, .int .i32 0, .bool false] 78)) = W1 := ⟨_, rfl⟩
  have b1 : Below w.heap.size w W1 := by rw [← hW1]; exact ((Below.refl _ w).alloc (Nat.le_refl _) _).alloc (by simp) _
  have X2 : Blk W1 w.heap.size 52 #[.int .u8 rest, .slice A n c] := by rw [← hW1]; exact (Blk.new w 52 _).alloc _
  have X4 : Blk W1 (w.heap.size + 1) 78 #[.int .i32 0, .int .u8 0, .int .i32 0, .int .u8 0, .int .i32 0, .int .i32 0, .bool false] := by rw [← hW1]; exact Blk.at_ (by simp)
  have hR1 := hR.below b1 (.inr (Nat.le_refl _))
  have HW1 := Lib.hid hW1
  obtain ⟨x0, x1, xf, xl⟩ := X2.c2
  clear hW1
  have fin : ∀ (y : Chr), ∃ W2, (((((((W1.setCell ⟨w.heap.size + 1, 0, none⟩ (.int .i32 y.r)).setCell ⟨w.heap.size + 1, 1, none⟩ (.int .u8 y.cl)).setCell ⟨w.heap.size + 1, 2, none⟩ (.int .i32 y.ot)).setCell ⟨w.heap.size + 1, 3, none⟩ (.int .u8 y.sd)).setCell ⟨w.heap.size + 1, 4, none⟩ (.int .i32 y.tw)).setCell ⟨w.heap.size + 1, 5, none⟩ (.int .i32 y.mi)).setCell ⟨w.heap.size + 1, 6, none⟩ (.bool y.tu)) = W2 ∧
      Blk W2 (w.heap.size + 1) 78 (chC y).toArray ∧ Below w.heap.size w W2 := by
    intro y
    refine ⟨_, rfl, ?_, ?_⟩
    · simpa [chC] using ((((((X4.set_ 0 (.int .i32 y.r)).set_ 1 (.int .u8 y.cl)).set_ 2 (.int .i32 y.ot)).set_ 3 (.int .u8 y.sd)).set_ 4 (.int .i32 y.tw)).set_ 5 (.int .i32 y.mi)).set_ 6 (.bool y.tu)
    · have F := (((((((Frm.refl (fun i => i = w.heap.size + 1) W1).set (j := 0) rfl (.int .i32 y.r)).set (j := 1) rfl (.int .u8 y.cl)).set (j := 2) rfl (.int .i32 y.ot)).set (j := 3) rfl (.int .u8 y.sd)).set (j := 4) rfl (.int .i32 y.tw)).set (j := 5) rfl (.int .i32 y.mi)).set (j := 6) rfl (.bool y.tu)
      exact b1.trans (F.below b1.size (fun i hi e => by omega))
  obtain ⟨e0, e1, e2, e3, e4, e5, e6, ef, el⟩ : W1.cell? ⟨w.heap.size + 1, 0, none⟩ = some (.int .i32 0) ∧ W1.cell? ⟨w.heap.size + 1, 1, none⟩ = some (.int .u8 0) ∧ W1.cell? ⟨w.heap.size + 1, 2, none⟩ = some (.int .i32 0) ∧ W1.cell? ⟨w.heap.size + 1, 3, none⟩ = some (.int .u8 0) ∧ W1.cell? ⟨w.heap.size + 1, 4, none⟩ = some (.int .i32 0) ∧ W1.cell? ⟨w.heap.size + 1, 5, none⟩ = some (.int .i32 0) ∧ W1.cell? ⟨w.heap.size + 1, 6, none⟩ = some (.bool false) ∧ (∀ j, W1.frozen? ⟨w.heap.size + 1, j, none⟩ = false) ∧ w.heap.size + 1 < W1.heap.size :=
    ⟨X4.cell 0, X4.cell 1, X4.cell 2, X4.cell 3, X4.cell 4, X4.cell 5, X4.cell 6, X4.frozen, X4.lt⟩
  have FIN := Lib.hid fin
  clear fin
  go_enter Try.func86, Try.ntmps86
  go_upto_region 1 with (fail)
  rw [HW1.out]
  go_wp2
  go_loopg [6] n (fun gk iv wr => ∃ i : Nat, i + gk = n ∧ iv = .int .i64 i ∧ atL L r = atL (L.drop i) r ∧ wr = W1)
  case atStart => exact ⟨0, by omega, rfl, rfl, rfl⟩
  case round =>
    obtain ⟨i, hi, rfl, hat, rfl⟩ := hrel
    have HI := Lib.hid hi
    have HAT := Lib.hid hat
    clear hi hat
    by_cases hlt : i < n
    · obtain ⟨x, hx⟩ : ∃ x, L[i]? = some x := ⟨_, List.getElem?_eq_getElem (by have := HN.out; omega)⟩
      obtain ⟨ab, off, rfl, a1, a2, hc⟩ := hR1.at_ encC hx (by omega)
      have c0 := hc 0 _ rfl
      have c1 := hc 1 _ rfl
      have c2 := hc 2 _ rfl
      have c3 := hc 3 _ rfl
      have c4 := hc 4 _ rfl
      have c5 := hc 5 _ rfl
      have c6 := hc 6 _ rfl
      rw [Nat.add_zero] at c0
      rw [← Nat.add_assoc] at c1 c2 c3 c4 c5 c6
      have hst := atL_drop (r := r) hx
      have HST := Lib.hid hst
      clear hst hc hx
      by_cases hk : x.r = r
      · subst hk
        have hkk : (x.r == x.r) = true := by simp
        have he : atL L x.r = some x := by rw [HAT.out, HST.out, if_pos rfl]
        have HE := Lib.hid he
        clear he
        go_wp2
        rw [HE.out]
        obtain ⟨W2, q1, q2, q3⟩ := FIN.out x
        rw [q1]
        exact bodyPost_ret (results_row1 rfl _ _ (w.heap.size + 1) 78 #[.int .i32 x.r, .int .u8 x.cl, .int .i32 x.ot, .int .u8 x.sd, .int .i32 x.tw, .int .i32 x.mi, .bool x.tu] _ rfl q2 Try.underlying78 rfl (by kernel_rfl)) rfl ⟨rfl, q3⟩
      · have hkk : (x.r == r) = false := by simpa using hk
        go_wp2
        go_roundg (n - (i + 1))
        case rel => exact ⟨i + 1, by omega, by go_num, by rw [HAT.out, HST.out, if_neg hk], rfl⟩
        case measure => have := HI.out; omega
    · have he : atL L r = none := by rw [HAT.out, List.drop_eq_nil_of_le (by have := HN.out; omega)]; rfl
      have HE := Lib.hid he
      clear he
      go_wp2
      rw [HE.out]
      obtain ⟨W2, q1, q2, q3⟩ := FIN.out Chr.zero
      simp only [Chr.zero] at q1 q2 q3
      rw [q1]
      exact bodyPost_ret (results_row1 rfl _ _ (w.heap.size + 1) 78 #[.int .i32 0, .int .u8 0, .int .i32 0, .int .u8 0, .int .i32 0, .int .i32 0, .bool false] _ rfl q2 Try.underlying78 rfl (by kernel_rfl)) rfl ⟨rfl, q3⟩

set_option maxRecDepth 100000 in
set_option maxHeartbeats 2000000 in
theorem brack_ok {w : World} {B : Nat} {pv : Value} {rest : Int} {L : List Chr} (r : Int) (h : PropsIs w B pv rest L) :
    Calls Try.prog 58 #[pv, .int .i32 r] w fun e w' => e = .returned (.tuple #[.int .i32 (brL L r).1, .int .u8 (brL L r).2]) ∧ Below w.heap.size w w' := by
  have CT : ∀ W, Frm (fun _ => False) w W → Calls Try.prog 86 #[pv, .int .i32 r] W fun e w' => e = .returned (.tuple #[.agg (chC ((atL L r).getD Chr.zero)).toArray, .bool (atL L r).isSome]) ∧ Below W.heap.size W w' := fun W hF => at_ok r (h.frm hF)
  obtain ⟨A, c, rfl, hR, hm⟩ := h
  have hbr : brL L r = if ((atL L r).getD Chr.zero).sd = 1 ∨ ((atL L r).getD Chr.zero).sd = 2 then (((atL L r).getD Chr.zero).ot, ((atL L r).getD Chr.zero).sd) else (0, 0) := by
    unfold brL; cases atL L r <;> rfl
  obtain ⟨x, hx⟩ : ∃ x, (atL L r).getD Chr.zero = x := ⟨_, rfl⟩
  obtain ⟨b, hb⟩ : ∃ b, (atL L r).isSome = b := ⟨_, rfl⟩
  rw [hx, hb] at CT
  rw [hx] at hbr
  rw [hbr]
  obtain ⟨n, hn⟩ : ∃ n, L.length = n := ⟨_, rfl⟩
  rw [hn] at CT ⊢
  simp only [chC] at CT
  have F1 : Frm (fun _ => False) w (w.alloc (.cells #[.int .u8 rest, .slice A n c] 52)) := (Frm.refl _ w).alloc _
  have CT1 := CT _ F1
  clear hx hb hbr hn CT
  by_cases h1 : x.sd = 1
  · obtain ⟨a1, a2, a3, a4, a5, a6, a7⟩ := x
    simp only at h1 CT1
    subst h1
    rw [if_pos (.inl rfl)]
    go_enter Try.func58, Try.ntmps58
    go_wp2_with (go_at_call 86; refine CT1.mono ?_; rintro e1 w1 ⟨rfl, b1⟩)
    go_quiet (fail)
    go_wp2
    go_ret2
    exact ⟨rfl, below_drewN (((Below.refl _ w).alloc (Nat.le_refl _) _).trans (b1.mono (by simp)) |>.alloc (by have := b1.size; simp at this; omega) _) _⟩
  · by_cases h2 : x.sd = 2
    · obtain ⟨a1, a2, a3, a4, a5, a6, a7⟩ := x
      simp only at h2 CT1
      subst h2
      rw [if_pos (.inr rfl)]
      go_enter Try.func58, Try.ntmps58
      go_wp2_with (go_at_call 86; refine CT1.mono ?_; rintro e1 w1 ⟨rfl, b1⟩)
      go_quiet (fail)
      go_wp2
      go_ret2
      exact ⟨rfl, below_drewN (((Below.refl _ w).alloc (Nat.le_refl _) _).trans (b1.mono (by simp)) |>.alloc (by have := b1.size; simp at this; omega) _) _⟩
    · rw [if_neg (by omega)]
      have hn1 : (x.sd != 1) = true := by simpa using h1
      have hn2 : (x.sd != 2) = true := by simpa using h2
      go_enter Try.func58, Try.ntmps58
      go_wp2_with (go_at_call 86; refine CT1.mono ?_; rintro e1 w1 ⟨rfl, b1⟩)
      go_ret2
      exact ⟨rfl, ((((Below.refl _ w).alloc (Nat.le_refl _) _).trans (b1.mono (by simp))).alloc (by have := b1.size; simp at this; omega) _)⟩

set_option maxRecDepth 100000 in
set_option maxHeartbeats 2000000 in
theorem class_ok {w : World} {B : Nat} {pv : Value} {rest : Int} {L : List Chr} (r : Int) (h : PropsIs w B pv rest L) :
    Calls Try.prog 60 #[pv, .int .i32 r] w fun e w' => e = .returned (.int .u8 (cpL rest L r)) ∧ Below w.heap.size w w' := by
  have CT : ∀ W, Frm (fun _ => False) w W → Calls Try.prog 86 #[pv, .int .i32 r] W fun e w' => e = .returned (.tuple #[.agg (chC ((atL L r).getD Chr.zero)).toArray, .bool (atL L r).isSome]) ∧ Below W.heap.size W w' := fun W hF => at_ok r (h.frm hF)
  obtain ⟨A, c, rfl, hR, hm⟩ := h
  obtain ⟨n, hn⟩ : ∃ n, L.length = n := ⟨_, rfl⟩
  rw [hn] at CT ⊢
  simp only [chC] at CT
  have F1 : Frm (fun _ => False) w (w.alloc (.cells #[.int .u8 rest, .slice A n c] 52)) := (Frm.refl _ w).alloc _
  have CT1 := CT _ F1
  unfold cpL
  clear CT hn
  obtain ⟨o, ho⟩ : ∃ o, atL L r = o := ⟨_, rfl⟩
  rw [ho] at CT1 ⊢
  clear ho
  rcases o with _ | x
  · simp only [Option.getD_none, Option.isSome_none, Chr.zero] at CT1
    go_enter Try.func60, Try.ntmps60
    go_wp2_with (go_at_call 86; refine CT1.mono ?_; rintro e1 w1 ⟨rfl, b1⟩; have hc := (Blk.new w 52 #[.int .u8 rest, .slice A n c]).below b1 (by simp); obtain ⟨y0, y1, yf, yl⟩ := hc.c2)
    go_ret
    exact ⟨rfl, ((((Below.refl _ w).alloc (Nat.le_refl _) _).trans (b1.mono (by simp))).alloc (by have := b1.size; simp at this; omega) _)⟩
  · simp only [Option.getD_some, Option.isSome_some] at CT1
    go_enter Try.func60, Try.ntmps60
    go_wp2_with (go_at_call 86; refine CT1.mono ?_; rintro e1 w1 ⟨rfl, b1⟩)
    go_ret
    exact ⟨rfl, ((((Below.refl _ w).alloc (Nat.le_refl _) _).trans (b1.mono (by simp))).alloc (by have := b1.size; simp at this; omega) _)⟩
set_option maxRecDepth 100000 in
set_option maxHeartbeats 2000000 in
theorem twin_ok {w : World} {B : Nat} {pv : Value} {rest : Int} {L : List Chr} (r : Int) (h : PropsIs w B pv rest L) :
    Calls Try.prog 61 #[pv, .int .i32 r] w fun e w' => e = .returned (.int .i32 (twL L r)) ∧ Below w.heap.size w w' := by
  have CT : ∀ W, Frm (fun _ => False) w W → Calls Try.prog 86 #[pv, .int .i32 r] W fun e w' => e = .returned (.tuple #[.agg (chC ((atL L r).getD Chr.zero)).toArray, .bool (atL L r).isSome]) ∧ Below W.heap.size W w' := fun W hF => at_ok r (h.frm hF)
  obtain ⟨A, c, rfl, hR, hm⟩ := h
  obtain ⟨n, hn⟩ : ∃ n, L.length = n := ⟨_, rfl⟩
  rw [hn] at CT ⊢
  simp only [chC] at CT
  have F1 : Frm (fun _ => False) w (w.alloc (.cells #[.int .u8 rest, .slice A n c] 52)) := (Frm.refl _ w).alloc _
  have CT1 := CT _ F1
  unfold twL
  clear CT hn
  obtain ⟨o, ho⟩ : ∃ o, atL L r = o := ⟨_, rfl⟩
  rw [ho] at CT1 ⊢
  clear ho
  rcases o with _ | x
  · simp only [Option.getD_none, Option.isSome_none, Chr.zero] at CT1
    go_enter Try.func61, Try.ntmps61
    go_wp2_with (go_at_call 86; refine CT1.mono ?_; rintro e1 w1 ⟨rfl, b1⟩)
    go_ret
    exact ⟨rfl, ((((Below.refl _ w).alloc (Nat.le_refl _) _).trans (b1.mono (by simp))).alloc (by have := b1.size; simp at this; omega) _)⟩
  · simp only [Option.getD_some, Option.isSome_some] at CT1
    obtain ⟨a1, a2, a3, a4, a5, a6, a7⟩ := x
    simp only at CT1 ⊢
    by_cases h0 : a5 = 0
    · subst h0
      rw [if_pos rfl]
      go_enter Try.func61, Try.ntmps61
      go_wp2_with (go_at_call 86; refine CT1.mono ?_; rintro e1 w1 ⟨rfl, b1⟩)
      go_ret
      exact ⟨rfl, ((((Below.refl _ w).alloc (Nat.le_refl _) _).trans (b1.mono (by simp))).alloc (by have := b1.size; simp at this; omega) _)⟩
    · rw [if_neg h0]
      have h00 : (a5 == 0) = false := by simpa using h0
      go_enter Try.func61, Try.ntmps61
      go_wp2_with (go_at_call 86; refine CT1.mono ?_; rintro e1 w1 ⟨rfl, b1⟩)
      go_ret
      exact ⟨rfl, ((((Below.refl _ w).alloc (Nat.le_refl _) _).trans (b1.mono (by simp))).alloc (by have := b1.size; simp at this; omega) _)⟩

def runC (r : Int) : Int := if r < 0 ∨ 1114111 < r then 65533 else r
set_option maxRecDepth 100000 in
theorem rRune_ok (w : World) (r : Int) : Calls Try.prog 72 #[.int .i32 r] w fun e w' => e = .returned (.int .i32 (runC r)) ∧ w' = w := by
  unfold runC
  by_cases h1 : r < 0
  · rw [if_pos (.inl h1)]
    go_enter Try.func72, Try.ntmps72
    go_wp2
    go_ret
    exact ⟨rfl, rfl⟩
  · by_cases h2 : 1114111 < r
    · rw [if_pos (.inr h2)]
      go_enter Try.func72, Try.ntmps72
      go_wp2
      go_ret
      exact ⟨rfl, rfl⟩
    · rw [if_neg (by omega)]
      go_enter Try.func72, Try.ntmps72
      go_wp2
      go_ret
      exact ⟨rfl, rfl⟩
set_option maxRecDepth 100000 in
theorem plain_ok (w : World) (r : Int) : Calls Try.prog 64 #[.int .i32 r] w fun e w' => e = .returned (.int .i32 (runC r)) ∧ w' = w := by
  unfold runC
  by_cases h1 : r < 0
  · rw [if_pos (.inl h1)]
    go_enter Try.func64, Try.ntmps64
    go_wp2
    go_ret
    exact ⟨rfl, rfl⟩
  · by_cases h2 : 1114111 < r
    · rw [if_pos (.inr h2)]
      go_enter Try.func64, Try.ntmps64
      go_wp2
      go_ret
      exact ⟨rfl, rfl⟩
    · rw [if_neg (by omega)]
      go_enter Try.func64, Try.ntmps64
      go_wp2
      go_ret
      exact ⟨rfl, rfl⟩
end Go.Proofs.Ytpdackbcnbhppaa
