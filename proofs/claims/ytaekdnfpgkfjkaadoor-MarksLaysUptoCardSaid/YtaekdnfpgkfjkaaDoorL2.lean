/- The classes of a text, by both. -/
import Derived.Test.YtaekdnfpgkfjkaaDoorL1
import Derived.Test.YtaekdnfpgkfjkaaDoorP2
namespace Go.Proofs.YtaekdnfpgkfjkaaDoor
open Go.RowKit
attribute [local go_sem] Oper.semAt_some

theorem step_appI {P : Program} {ops : Array Oper} {o : Oper} {a : Act} {w : World} {K : Act → World → Prop} {Q : Exit → Act → World → Prop} {E : Prop} {t e : TypeId} {k : IntKind} {bytes : Nat} (T : ElemI P t e k bytes)
    (hg : o.guard = none) (s x : Operand) (hop : o.op = Op.call { callee := Callee.builtin Builtin.append, args := #[s, x], argTypes := #[t, t] })
    {base : Nat} {v : Value} {l : List Int} (hs : a.eval s = v) (hown : Ints w base e k v l) {q : Nat} {y : Int} (hx : a.eval x = .slice (some ⟨q, 0, none⟩) 1 1) (hk : Blk w q e #[.int k y])
    (h63 : l.length + 1 ≤ maxLen) (hbytes : (l.length + 1) * bytes ≤ 140737488355328) (hbase : base ≤ w.heap.size)
    (hK : ∀ g cap w', Ints w' base e k (.slice (some ⟨g, 0, none⟩) (l.length + 1) cap) (l ++ [y]) → w.grownBy w' v.ownBlock → (v.ownBlock = some g ∨ g = w.heap.size) →
      K (a.put o.dst (.slice (some ⟨g, 0, none⟩) (l.length + 1) cap)) w') :
    if Region.wanted o (yielded ops a.tmps) = true then Oper.wp P o a w K Q else E := by
  have hw : Region.wanted o (yielded ops a.tmps) = true := by simp [Region.wanted, hg]
  rw [if_pos hw]
  obtain ⟨v', w', hrun, r1, r2, r3⟩ := run_app T.t (w := w) (c := 1) o.type hown (Reads.blk hk (by simp)) (by simp [Value.oneCell']) h63 hbytes hbase
  obtain ⟨g, cap, rfl, _, _⟩ := r1.form (by omega)
  unfold Oper.wp
  simp [execOp, hop, resolve, invoke, builtin, hs, hx, hrun, Result.andThen]
  refine hK g cap w' (by unfold Ints; simpa using r1) r2 ?_
  rcases r3 with r3 | r3
  · exact .inl r3.symm
  · right; simpa [Value.ownBlock] using r3

@[go_sem] theorem nil_class (w : World) (pv : Value) : (nilAhead 237 25 pv "Class").run Tryd.prog w = .ok (some false) w := by kernel_rfl
/-- What props tell of runes. -/
def clsL (rest : Int) (ch : List Chr) (rs : List Int) : List Int := rs.map fun r => clsC (cpL rest ch (runC r))
theorem clsL_take {rest : Int} {ch : List Chr} {rs : List Int} {k : Nat} (h : k < rs.length) : clsL rest ch (rs.take (k + 1)) = clsL rest ch (rs.take k) ++ [clsC (cpL rest ch (runC (rs.getD k 0)))] := by
  unfold clsL
  rw [List.take_succ_eq_append_getElem h, List.map_append, List.getD_eq_getElem?_getD, List.getElem?_eq_getElem h]
  rfl

set_option maxRecDepth 100000 in
set_option maxHeartbeats 4000000 in
theorem Classes_ok {w : World} {B B2 n c2 : Nat} {pv : Value} {rest : Int} {ch : List Chr} {A : Option Addr} {rs : List Int} (hP : PropsIs w B pv rest ch) (hR : RdInts w B2 .i32 A rs) (hn : n = rs.length) (hl : n ≤ 1099511627776) :
    Calls Tryd.prog 36 #[.iface 25 pv, .slice A n c2] w fun e w' => ∃ v, e = .returned (.tuple #[v, .int .i64 0]) ∧ Ints w' w.heap.size 22 .u8 v (clsL rest ch rs) ∧ Aft w w' := by
  replace hP := hP.clip
  replace hR : RdInts w w.heap.size .i32 A rs := Reads.clip hR
  have CT : ∀ W r, Aft w W → Calls Tryd.prog 30 #[pv, .int .i32 r] W fun e w' => e = .returned (.int .u8 (cpL rest ch r)) ∧ Below W.heap.size W w' := fun W r hb => pclass_ok r (hP.below hb (.inl (Nat.le_refl _)))
  have HN := Lib.hid hn
  clear hn hP
  go_enter Tryd.func36, Tryd.ntmps36
  go_wp2
  go_loopg [6, 13] n (fun gk lv iv wr => ∃ k : Nat, k + gk = n ∧ iv = .int .i64 k ∧ Ints wr w.heap.size 22 .u8 lv (clsL rest ch (rs.take k)) ∧ Aft w wr)
  case atStart => exact ⟨0, by omega, rfl, Ints.nil _ _ _ _, Aft.refl _⟩
  case round =>
    obtain ⟨k, hk, rfl, I, b1⟩ := hrel
    by_cases hkn : k < n
    · have hkl : k < rs.length := by have := HN.out; omega
      have hRr := hR.below b1 (.inl (Nat.le_refl _))
      obtain ⟨b, off, rfl, hb1, hb2, c0⟩ := hRr.at_ (i := k) hkl
      have hcl := clsL_take (rest := rest) (ch := ch) hkl
      obtain ⟨r, hr⟩ : ∃ r, rs.getD k 0 = r := ⟨_, rfl⟩
      rw [hr] at c0 hcl
      have CA := fun W => asked_ok W r
      have CR : ∀ W, Aft w W → Calls Tryd.prog 30 #[pv, .int .i32 (runC r)] W fun e w' => e = .returned (.int .u8 (cpL rest ch (runC r))) ∧ Below W.heap.size W w' := fun W hb => CT W _ hb
      generalize runC r = r2 at *
      generalize cpL rest ch r2 = cp at *
      have CK := fun W => known_ok W cp
      generalize clsC cp = cc at *
      have hlen : (clsL rest ch (rs.take k)).length = k := by unfold clsL; simp; omega
      have HCL := Lib.hid hcl
      have HK := Lib.hid hk
      have HLEN := Lib.hid hlen
      clear hcl hr hk hlen hRr
      have b1d : Aft w wr.drew := b1.drew
      have hws := b1.size
      go_upto_region 7 with (fail)
      go_region_law (first
        | (go_simp; go_at_call 56; refine (CA _).mono ?_; rintro r5 w5 ⟨rfl, rfl⟩)
        | (go_simp; go_at_call 30; refine (CR _ b1.drew).mono ?_; rintro r6 w6 ⟨rfl, b6⟩; have I6 : Ints w6 w.heap.size 22 .u8 u6 (clsL rest ch (rs.take k)) := (show Ints wr.drew _ _ _ _ _ from I).below b6 (Nat.le_refl _); have b7 := b1d.trans b6; have hw6 := b7.size; have hz6 := b6.size)
        | (go_simp; go_at_call 55; refine (CK _).mono ?_; rintro r7 w7 ⟨rfl, rfl⟩)
        | (refine step_appI (v := u6) eiC rfl (.tmp 17) (.tmp 26) rfl rfl (I6.alloc _) rfl (Blk.new _ _ _) (by rw [HLEN.out]; unfold maxLen; omega) (by rw [HLEN.out]; omega) (by rw [World.size_alloc]; omega) ?_
           intro g2 cap2 w8 I8 g8 hg8
           rw [HLEN.out] at I8 ⊢))
      all_goals
        have a8 : Aft w w8 := (b7.alloc _).grown g8 (fun j e => by have := (I6.lt j e).1; omega)
        go_wp2
        go_roundg (n - (k + 1))
        case rel => exact ⟨k + 1, by have := HK.out; omega, by go_num, by rw [HCL.out]; exact I8, a8⟩
        case measure => have := HK.out; omega
    · have hke : k = n := by omega
      subst hke
      rw [List.take_of_length_le (by have := HN.out; omega)] at I
      go_wp2
      go_ret2
      exact ⟨_, rfl, I, b1⟩

set_option maxRecDepth 100000 in
set_option maxHeartbeats 4000000 in
theorem rClasses_ok {w : World} {B B2 n c2 : Nat} {pv : Value} {rest : Int} {ch : List Chr} {A : Option Addr} {rs : List Int} (hP : PropsIs w B pv rest ch) (hR : RdInts w B2 .i32 A rs) (hn : n = rs.length) (hl : n ≤ 1099511627776) :
    Calls Tryd.prog 60 #[pv, .slice A n c2] w fun e w' => ∃ v, e = .returned v ∧ Ints w' w.heap.size 22 .u8 v (clsL rest ch rs) ∧ Aft w w' := by
  replace hP := hP.clip
  replace hR : RdInts w w.heap.size .i32 A rs := Reads.clip hR
  have CT : ∀ W r, Aft w W → Calls Tryd.prog 30 #[pv, .int .i32 r] W fun e w' => e = .returned (.int .u8 (cpL rest ch r)) ∧ Below W.heap.size W w' := fun W r hb => pclass_ok r (hP.below hb (.inl (Nat.le_refl _)))
  obtain ⟨pA, pc, rfl, -, -⟩ := hP
  obtain ⟨pn, hpn⟩ : ∃ pn, ch.length = pn := ⟨_, rfl⟩
  rw [hpn] at CT ⊢
  have HN := Lib.hid hn
  clear hn hpn
  obtain ⟨W1, hW1⟩ : ∃ W1, w.alloc (.cells #[.int .u8 rest, .slice pA pn pc] 25) = W1 := ⟨_, rfl⟩
  have bW : Aft w W1 := by rw [← hW1]; exact (Aft.refl w).alloc _
  have X : Blk W1 w.heap.size 25 #[.int .u8 rest, .slice pA pn pc] := by rw [← hW1]; exact Blk.new w 25 _
  go_enter Tryd.func60, Tryd.ntmps60
  go_upto_region 1 with (fail)
  clear hW1
  have hwW := bW.size
  go_wp2
  go_loopg [5, 6] n (fun gk lv iv wr => ∃ k : Nat, k + gk = n ∧ iv = .int .i64 k ∧ Ints wr W1.heap.size 22 .u8 lv (clsL rest ch (rs.take k)) ∧ Aft W1 wr)
  case atStart => exact ⟨0, by omega, rfl, Ints.nil _ _ _ _, Aft.refl _⟩
  case round =>
    obtain ⟨k, hk, rfl, I, b1⟩ := hrel
    by_cases hkn : k < n
    · have hkl : k < rs.length := by have := HN.out; omega
      have hRr := hR.below (bW.trans b1) (.inl (Nat.le_refl _))
      obtain ⟨b, off, rfl, hb1, hb2, c0⟩ := hRr.at_ (i := k) hkl
      have hcl := clsL_take (rest := rest) (ch := ch) hkl
      obtain ⟨r, hr⟩ : ∃ r, rs.getD k 0 = r := ⟨_, rfl⟩
      rw [hr] at c0 hcl
      have CA := fun W => rRune_ok W r
      have CR : ∀ W, Aft w W → Calls Tryd.prog 30 #[.agg #[.int .u8 rest, .slice pA pn pc], .int .i32 (runC r)] W fun e w' => e = .returned (.int .u8 (cpL rest ch (runC r))) ∧ Below W.heap.size W w' := fun W hb => CT W _ hb
      generalize runC r = r2 at *
      generalize cpL rest ch r2 = cp at *
      have CK := fun W => rClass_ok W cp
      generalize clsC cp = cc at *
      have hlen : (clsL rest ch (rs.take k)).length = k := by unfold clsL; simp; omega
      have HCL := Lib.hid hcl
      have HK := Lib.hid hk
      have HLEN := Lib.hid hlen
      clear hcl hr hk hlen hRr
      have bw : Aft w wr := bW.trans b1
      have b1d : Aft W1 wr.drew := b1.drew
      have hws := b1.size
      obtain ⟨x0, x1, xf, xl⟩ := (X.below b1 X.lt).c2
      go_upto_region 5 with (fail)
      go_region_law (first
        | (go_simp; go_at_call 71; refine (CA _).mono ?_; rintro r5 w5 ⟨rfl, rfl⟩)
        | (go_simp; go_at_call 30; refine (CR _ bw.drew).mono ?_; rintro r6 w6 ⟨rfl, b6⟩; have I6 : Ints w6 W1.heap.size 22 .u8 u5 (clsL rest ch (rs.take k)) := (show Ints wr.drew _ _ _ _ _ from I).below b6 (Nat.le_refl _); have b7 := b1d.trans b6; have hw6 := b7.size; have hz6 := b6.size; obtain ⟨y0, y1, yf, yl⟩ := (X.below b7 X.lt).c2)
        | (go_simp; go_at_call 29; refine (CK _).mono ?_; rintro r7 w7 ⟨rfl, rfl⟩)
        | (refine step_appI (v := u5) eiC rfl (.tmp 13) (.tmp 22) rfl rfl (I6.alloc _) rfl (Blk.new _ _ _) (by rw [HLEN.out]; unfold maxLen; omega) (by rw [HLEN.out]; omega) (by rw [World.size_alloc]; omega) ?_
           intro g2 cap2 w8 I8 g8 hg8
           rw [HLEN.out] at I8 ⊢))
      all_goals
        have a8 : Aft W1 w8 := (b7.alloc _).grown g8 (fun j e => by have := (I6.lt j e).1; omega)
        go_wp2
        go_roundg (n - (k + 1))
        case rel => exact ⟨k + 1, by have := HK.out; omega, by go_num, by rw [HCL.out]; exact I8, a8⟩
        case measure => have := HK.out; omega
    · have hke : k = n := by omega
      subst hke
      rw [List.take_of_length_le (by have := HN.out; omega)] at I
      go_wp2
      go_ret
      exact ⟨_, rfl, I.base (fun j e => by have := (I.lt j e).1; omega), bW.trans b1⟩
end Go.Proofs.YtaekdnfpgkfjkaaDoor
