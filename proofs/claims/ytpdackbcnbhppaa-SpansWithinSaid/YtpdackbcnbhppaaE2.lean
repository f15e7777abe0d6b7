/- The iterator of steps, walked. -/
import Derived.Test.YtpdackbcnbhppaaE1
import Derived.Test.YtpdackbcnbhppaaM2
import Derived.Test.YtpdackbcnbhppaaS12
import Derived.Test.YtpdackbcnbhppaaRng3
import Derived.RangeFuncLeaves
import Derived.TacticsInMore
import Derived.LoopNIn
import Derived.LoopIn
import Derived.Test.YtpdackbcnbhppaaMidIn
namespace Go.Proofs.Ytpdackbcnbhppaa
open Go.RowKit
attribute [local go_sem] Oper.semAt_some

/-- What a round is told of, and what has come so far. -/
structure Rd where
  i : Nat
  lv : Int
  cl : Int
  lvs : List Int
  cls : List Int
  lvv : Value
  clv : Value
def Rd.encs (x : Rd) : Array Value := #[.int .i64 x.i, .agg #[.int .i8 x.lv, .int .u8 x.cl]]

/-- The answer under way, in its block. -/
structure XIs (D bx : Nat) (mv lvv clv : Value) (lvs cls : List Int) (W : World) : Prop where
  blk : Blk W bx 40 #[lvv, clv, mv]
  lv : Ints W (D + 2) 23 .i8 lvv lvs
  cl : Ints W (D + 2) 28 .u8 clv cls
  ne : ∀ j, lvv.ownBlock = some j → clv.ownBlock ≠ some j

theorem XIs.frm {D bx : Nat} {mv lvv clv : Value} {lvs cls : List Int} {W W' : World} {F : Nat → Prop} (h : XIs D bx mv lvv clv lvs cls W) (hf : Frm F W W') (hb : ¬ F bx)
    (h1 : ∀ j, lvv.ownBlock = some j → ¬ F j) (h2 : ∀ j, clv.ownBlock = some j → ¬ F j) : XIs D bx mv lvv clv lvs cls W' :=
  ⟨h.blk.frm hf hb, h.lv.frm hf h1, h.cl.frm hf h2, h.ne⟩

/-- What a round does: the two lists grow by one each. -/
def Grew (D bx : Nat) (mv : Value) (x : Rd) (W W' : World) : Prop :=
  ∃ lvv' clv', XIs D bx mv lvv' clv' (x.lvs ++ [x.lv]) (x.cls ++ [x.cl]) W' ∧ (∀ j, lvv'.ownBlock = some j → x.lvv.ownBlock = some j ∨ W.heap.size ≤ j) ∧ (∀ j, clv'.ownBlock = some j → x.clv.ownBlock = some j ∨ W.heap.size ≤ j) ∧
    Frm (fun k => k = bx ∨ k = D + 1 ∨ x.lvv.ownBlock = some k ∨ x.clv.ownBlock = some k) W W'

/-- What lies where the loop begins. -/
structure Env (w : World) (b g0 bx bs bl ba ag acap c : Nat) (A : Option Addr) (B : Nat) (l : List Int) : Prop where
  box_s : Blk w bs 152 #[.pointer (some ⟨b, 0, none⟩)]
  box_l : Blk w bl 24 #[.slice A l.length c]
  box_a : Blk w ba 25 #[.slice (some ⟨ag, 0, none⟩) (l.length + 1) acap]
  rd : RdInts w B .u8 A l
  hB : B ≤ bx
  au : Ints w 0 23 .i8 (.slice (some ⟨ag, 0, none⟩) (l.length + 1) acap) (autosL l (matchL l))
  ns : bs ≠ bx ∧ bs ≠ b ∧ bs ≠ g0
  nl : bl ≠ bx ∧ bl ≠ b ∧ bl ≠ g0
  na : ba ≠ bx ∧ ba ≠ b ∧ ba ≠ g0
  ng : ag ≠ bx ∧ ag ≠ b ∧ ag ≠ g0
  nx : bx ≠ b ∧ bx ≠ g0
  low : B ≤ b ∧ B ≤ g0
  hb : b < w.heap.size
  hg : g0 < w.heap.size
  hx : bx < w.heap.size

def Inv (w : World) (base : Int) (b g0 bx : Nat) (mv : Value) (l : List Int) (k : Nat) (wr : World) : Prop :=
  ∃ g lvv clv, StackIs wr b g (runS base l (auP l) k).1 ∧ (g = g0 ∨ w.heap.size + 2 ≤ g) ∧ XIs w.heap.size bx mv lvv clv (runS base l (auP l) k).2.1 (runS base l (auP l) k).2.2 wr ∧
    lvv.ownBlock ≠ some g ∧ clv.ownBlock ≠ some g ∧ Frm (fun j => j = bx ∨ j = b ∨ j = g0) w wr

set_option maxRecDepth 100000 in
set_option maxHeartbeats 2000000 in
theorem iter_any {w W1 : World} {b g0 bx bs bl ba ag acap c B : Nat} {A : Option Addr} {l : List Int} {base : Int} (hbase : base = 0 ∨ base = 1) (hl : l.length ≤ 1048576) {mv : Value} (E : Env w b g0 bx bs bl ba ag acap c A B l)
    (h0 : Inv w base b g0 bx mv l 0 W1) {Rdy : World → Prop} (hsz : ∀ A, Rdy A → w.heap.size + 1 < A.heap.size) (hst : ∀ A B, Rdy A → Two w.heap.size A B → Rdy B) (hr1 : Rdy W1) {n : Nat} (hn : 1 ≤ n)
    (hY : ∀ (x : Rd) W, XIs w.heap.size bx mv x.lvv x.clv x.lvs x.cls W ∧ x.lvs.length < l.length ∧ x.cls.length < l.length → Rdy W → YieldAt Fence.wide (n - 1) Try.prog (w.heap.size + 1) x.encs W fun e W' =>
        (e = .returned (.bool true) ∧ Grew w.heap.size bx mv x W W' ∧ Rdy W')) :
    CallsIn Fence.wide n Try.prog 95 #[.func (.yield (w.heap.size + 1)) #[] #[], .pointer (some ⟨bl, 0, none⟩), .pointer (some ⟨bs, 0, none⟩), .pointer (some ⟨ba, 0, none⟩)] W1 fun e W' => (∃ v, e = .returned v) ∧ Inv w base b g0 bx mv l l.length W' ∧ Rdy W' := by
  refine callsIn_of_wp Try.func95 rfl trivial ?_ rfl
  simp only [Try.ntmps95, List.size_toArray, List.length_cons, List.length_nil, Nat.reduceAdd, Nat.reduceSub, Array.replicate_succ, Array.replicate_zero, List.push_toArray, List.append_toArray, List.nil_append, List.cons_append]
  obtain ⟨c1, _, _⟩ := (E.box_l.frm (h0.choose_spec.choose_spec.choose_spec.2.2.2.2.2) (by have := E.nl; omega)).c1
  gi_wp2
  gi_loopw [12] (fun iv wr => ∃ k : Nat, iv = .int .i64 k ∧ k ≤ l.length ∧ Inv w base b g0 bx mv l k wr ∧ Rdy wr) (fun iv _ => l.length - (intOf iv).toNat)
  case atStart => exact ⟨0, rfl, Nat.zero_le _, h0, hr1⟩
  case round =>
    obtain ⟨k, rfl, hk, hI, hr⟩ := hrel
    by_cases hlt : k < l.length
    · clear c1 h0 hr1
      have hkl := hk
      obtain ⟨g, lvv, clv, S, hg, X, hlg, hcg, F0⟩ := hI
      have c1 := (E.box_l.frm F0 (by have := E.nl; omega)).c1
      have c2 := (E.box_s.frm F0 (by have := E.ns; omega)).c1
      have c3 := (E.box_a.frm F0 (by have := E.na; omega)).c1
      have hbw : B ≤ w.heap.size := by have := E.hb; have := E.low; omega
      have rd := E.rd.below (F0.below hbw (fun j hj => by have := E.hB; have := E.low; omega)) (.inl (Nat.le_refl _))
      obtain ⟨ab, off, rfl, _, _, hc⟩ := rd.at_ hlt
      obtain ⟨-, _, _, _, hags, _, hac⟩ := (E.au.frm F0 (fun j hj => by have := E.ng; simp [Value.ownBlock] at hj; omega)).at_
      have c4 := hac (k + 1) (by unfold autosL; rw [autoSuf_length]; omega)
      clear hac rd
      have ha : (autosL l (matchL l)).getD (k + 1) 0 = auP l k := rfl
      rw [ha] at c4
      clear ha
      obtain ⟨c1, _, _⟩ := c1
      obtain ⟨c2, _, _⟩ := c2
      obtain ⟨c3, _, _⟩ := c3
      obtain ⟨W0, hi0, hm0⟩ := runS_wf hbase l (auP l) k
      have hlen := runS_len base l (auP l) k
      have hnx : runS base l (auP l) (k + 1) = ((stepS base (runS base l (auP l) k).1 (l.getD k 0) (auP l k)).s, (runS base l (auP l) k).2.1 ++ [(stepS base (runS base l (auP l) k).1 (l.getD k 0) (auP l k)).lv],
        (runS base l (auP l) k).2.2 ++ [(stepS base (runS base l (auP l) k).1 (l.getD k 0) (auP l k)).cl]) := rfl
      generalize l.getD k 0 = cc at hc hnx
      generalize auP l k = au at c4 hnx
      generalize runS base l (auP l) k = st at S X hnx W0 hi0 hm0 hlen
      obtain ⟨ss, lvs, cls⟩ := st
      simp only at S X hnx W0 hi0 hm0 hlen
      have HN := Lib.hid hnx
      have HL := Lib.hid hlen
      have HG := Lib.hid hg
      clear hnx hlen hg
      gi_wp2
      refine wpIn_wide.2 ?_
      refine wp_region_mid 7 (by kernel_rfl) (by kernel_rfl) rfl ?_
      simp only [List.take_succ_cons, List.take_zero]
      repeat (refine still_plain rfl rfl ?_; intro K hK; go_wp2)
      refine wpStill_nil ?_
      refine mid_op rfl rfl ?_
      intro K hK
      go_wp2_with (go_at_call 96; refine (Step_any (base := base) cc au (s := ss) (b := b) (g := g) (w := wr.drew) (IsStack.drew S) W0 (by omega) (by omega)).mono ?_; rintro r1 w1 ⟨rfl, g', hg', S', F1⟩)
      simp only [List.drop_succ_cons, List.drop_zero]
      repeat (refine still_plain rfl rfl ?_; intro K hK; go_wp2)
      refine wpStill_nil ?_
      have F2 : Frm (fun k => k = b ∨ k = g) wr w1 := ⟨F1.os, F1.tape, F1.output, F1.size, F1.block⟩
      clear F1 hc c1 c2 c3 c4
      have hgl : g < wr.heap.size := by
        obtain ⟨cap, _, h⟩ := S.parts
        obtain ⟨_, _, h, _⟩ := own_blk h
        exact h.lt
      have hgl' : g' < w1.heap.size := by
        obtain ⟨cap, _, h⟩ := S'.parts
        obtain ⟨_, _, h, _⟩ := own_blk h
        exact h.lt
      have hwr := hsz _ hr
      have hs2 := F2.size
      have hg' : g' = g ∨ wr.heap.size ≤ g' := hg'
      have hlo := X.lv.lt
      have hco := X.cl.lt
      have hEb := E.hb
      have hEg := E.hg
      have hEx := E.hx
      obtain ⟨hx1, hx2⟩ := E.nx
      have hbxg : bx ≠ g := by rcases HG.out with e | e <;> omega
      have X1 : XIs w.heap.size bx mv lvv clv lvs cls w1 := X.frm F2 (by omega) (fun j hj e => by
        have := hlo j hj
        rcases e with e | e
        · omega
        · subst e; exact hlg hj) (fun j hj e => by
        have := hco j hj
        rcases e with e | e
        · omega
        · subst e; exact hcg hj)
      have hr1 := hst _ _ hr (Two.of_frm F2 hwr (by rcases HG.out with e | e <;> omega) (by rcases HG.out with e | e <;> omega))
      obtain ⟨fn, tmps, assign, body, hy, hR⟩ := hY ⟨k, (stepS base ss cc au).lv, (stepS base ss cc au).cl, lvs, cls, lvv, clv⟩ w1 ⟨X1, by simp only; have := HL.out; omega, by simp only; have := HL.out; omega⟩ hr1
      dsimp only [Rd.encs] at hy
      generalize stepS base ss cc au = o at *
      obtain ⟨os, olv, ocl, ok⟩ := o
      simp only at S' hy hR ⊢
      have HG' := Lib.hid hg'
      clear hg'
      gi_wp2
      refine hR.mono ?_
      rintro e W3 ⟨rfl, G, hr3⟩
      gi_wp2
      go_roundw
      case rel =>
        obtain ⟨lvv', clv', X3, hl3, hc3, F3⟩ := G
        simp only at X3 hl3 hc3 F3
        have hn3 : ∀ j, j = b ∨ j = g' → ¬ (j = bx ∨ j = w.heap.size + 1 ∨ lvv.ownBlock = some j ∨ clv.ownBlock = some j) := by
          intro j hj e
          rcases e with e | e | e | e
          · have := HG.out; have := HG'.out; omega
          · have := HG.out; have := HG'.out; omega
          · have := hlo j e
            have h5 : j ≠ g := by rintro rfl; exact hlg e
            have := HG'.out; omega
          · have := hco j e
            have h5 : j ≠ g := by rintro rfl; exact hcg e
            have := HG'.out; omega
        refine ⟨k + 1, by go_num, by omega, ⟨g', lvv', clv', ?_, ?_, ?_, ?_, ?_, ?_⟩, hr3⟩
        · rw [HN.out]; exact IsStack.frm S' F3 (hn3 b (.inl rfl)) (hn3 g' (.inr rfl))
        · have := HG.out; have := HG'.out; omega
        · rw [HN.out]; exact X3
        · intro e
          rcases hl3 g' e with h | h
          · exact hn3 g' (.inr rfl) (.inr (.inr (.inl h)))
          · omega
        · intro e
          rcases hc3 g' e with h | h
          · exact hn3 g' (.inr rfl) (.inr (.inr (.inr h)))
          · omega
        · refine (F0.trans F2 (fun j hj e => ?_)).trans F3 (fun j hj e => ?_)
          · have := HG.out; omega
          · rcases e with e | e | e | e
            · exact .inl e
            · omega
            · have := hlo j e; omega
            · have := hco j e; omega
      case measure => simp only [intOf]; omega
    · have hkn : k = l.length := by omega
      subst hkn
      gi_wp2
      go_end0
      exact ⟨⟨_, rfl⟩, hI, hr⟩
end Go.Proofs.Ytpdackbcnbhppaa
