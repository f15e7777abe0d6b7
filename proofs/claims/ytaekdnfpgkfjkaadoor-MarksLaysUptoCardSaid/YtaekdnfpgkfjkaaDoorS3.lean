/- stretches walked. -/
import Derived.Test.YtaekdnfpgkfjkaaDoorS2
import Derived.Test.YtaekdnfpgkfjkaaDoorC6
import Derived.Test.YtaekdnfpgkfjkaaDoorP1
import Derived.Test.YtaekdnfpgkfjkaaDoorKit3
import Derived.Sort.CutIn
import Derived.Test.YtaekdnfpgkfjkaaDoorR1
namespace Go.Proofs.YtaekdnfpgkfjkaaDoor
open Go.RowKit
attribute [local go_sem] Oper.semAt_some

def stC (g : List UInt8 × Int) : List Value := [.string (txt g.1), .int .i8 g.2]
theorem encT : Enc stC 2 := ⟨fun _ => rfl, fun x u hu => by simp [stC] at hu; rcases hu with rfl | rfl <;> rfl⟩
theorem etT : ElemT Tryd.prog 74 77 2 24 := ElemT.mk' (.agg #[.string ⟨#[]⟩, .int .i8 0]) Tryd.underlying74 (by kernel_rfl) rfl (by omega)

theorem wpListIn_appR {F : Fence} {n : Nat} {α : Type} {c : α → List Value} {sz : Nat} {P : Program} {t e : TypeId} {bytes : Nat} {w : World} {ops : Array Oper} {rest : List Oper} {o : Oper} {a : Act} {Q : Exit → Act → World → Prop} (E : Enc c sz) (T : ElemT P t e sz bytes) {s x : Operand} (hgd : o.guard = none)
    (ho : o.op = .call { callee := .builtin .append, args := #[s, x], argTypes := #[t, t] }) {base : Nat} {v : Value} {l : List α} (hs : a.eval s = v) (hown : Rw c sz w base e v l)
    {q : Nat} {y : α} {cs : Array Value} (hx : a.eval x = .slice (some ⟨q, 0, none⟩) 1 1) (hk : Blk w q e cs) (hcs : cs.toList = c y)
    (h63 : l.length + 1 ≤ maxLen) (hbytes : (l.length + 1) * bytes ≤ 140737488355328) (hbase : base ≤ w.heap.size)
    (h : ∀ g cap w', Rw c sz w' base e (.slice (some ⟨g, 0, none⟩) (l.length + 1) cap) (l ++ [y]) → w.grownBy w' v.ownBlock → (v.ownBlock = some g ∨ g = w.heap.size) →
      wpListIn F n P ops Q rest (a.put o.dst (.slice (some ⟨g, 0, none⟩) (l.length + 1) cap)) w') : wpListIn F n P ops Q (o :: rest) a w := by
  have hsz : cs.size = sz := by rw [← Array.length_toList, hcs, E.len]
  refine wpListIn_app T hgd ho hs hown hx (Reads.blk hk (by rw [hsz]; omega)) (by rw [hcs]; exact E.one y) h63 hbytes hbase fun v' w' h2 h3 h4 => ?_
  obtain ⟨g, cap, rfl, _, _⟩ := h2.form (by omega)
  refine h g cap w' ?_ h3 ?_
  · unfold Rw
    rw [hcs] at h2
    simpa using h2
  · rcases h4 with h4 | h4
    · exact .inl h4.symm
    · right; simpa [Value.ownBlock] using h4

def StrAt (w1 : World) (q : Nat) (b : Int) (s : ByteArray) (ls : List Int) (k : Nat) (S : Nat → Prop) (W : World) : Prop :=
  ∃ v, (∀ j, S j ↔ (j = q ∨ j = q + 1 ∨ j = q + 1 + 1 ∨ j = w1.heap.size + 1 ∨ v.ownBlock = some j)) ∧ Rw stC 2 W (w1.heap.size + 2) 77 v (strL b s ls k) ∧ Blk W q 74 #[v] ∧ Blk W (q + 1) 4 #[.bool (stT b s ls k).is] ∧ Blk W (q + 1 + 1) 3 #[.int .i64 k] ∧
    Frm (fun j => j = q ∨ j = q + 1 ∨ j = q + 1 + 1) w1 W ∧ w1.heap.size + 1 < W.heap.size
theorem StrAt.frm {w1 W W' : World} {q k : Nat} {b : Int} {s : ByteArray} {ls : List Int} {S : Nat → Prop} (h : StrAt w1 q b s ls k S W) (hq : q + 1 + 1 < w1.heap.size) {i : Nat} (hi : w1.heap.size + 1 ≤ i) (hS : i = w1.heap.size + 1 ∨ ¬ S i) (hF : Frm (fun j => j = i) W W') : StrAt w1 q b s ls k S W' := by
  obtain ⟨v, h1, h2, h3, h4, h5, h6, h7⟩ := h
  refine ⟨v, h1, h2.frm hF (fun j hj e => ?_), h3.frm hF (by omega), h4.frm hF (by omega), h5.frm hF (by omega), h6.trans hF (fun j hj e => by omega), Nat.lt_of_lt_of_le h7 hF.size⟩
  have := (h2.lt j hj).1
  rcases hS with hS | hS
  · omega
  · exact hS (by rw [← e]; exact (h1 j).2 (.inr (.inr (.inr (.inr hj)))))
/-- The row, and the variables, as they stand. -/
structure StrW (W : World) (q B : Nat) (v : Value) (l : List (List UInt8 × Int)) (is : Bool) (k : Nat) : Prop where
  row : Rw stC 2 W B 77 v l
  rq : Blk W q 74 #[v]
  ri : Blk W (q + 1) 4 #[.bool is]
  rn : Blk W (q + 1 + 1) 3 #[.int .i64 k]
def Fq (q : Nat) (v : Value) (j : Nat) : Prop := j = q ∨ j = q + 1 ∨ j = q + 1 + 1 ∨ v.ownBlock = some j
theorem Fq.trans {q : Nat} {v v9 : Value} {W2 W3 W9 : World} (h : Frm (Fq q v) W2 W3) (k : Frm (Fq q v9) W3 W9) (hv : v9.ownBlock = v.ownBlock ∨ ∀ j, v9.ownBlock = some j → W2.heap.size ≤ j) : Frm (Fq q v) W2 W9 :=
  Frm.trans h k (fun j hj e => by
    rcases e with e | e | e | e
    · exact .inl e
    · exact .inr (.inl e)
    · exact .inr (.inr (.inl e))
    · rcases hv with h | h
      · exact .inr (.inr (.inr (by rw [← h]; exact e)))
      · have := h j e; omega)
theorem str_app {W3 w8 : World} {q B g n cap k : Nat} {o : Obj} {v : Value} {l l' : List (List UInt8 × Int)} {is : Bool} (hq : q + 1 + 1 < B) (h : StrW W3 q B v l is k)
    (g8 : (W3.alloc o).grownBy w8 v.ownBlock) (I8 : Rw stC 2 w8 B 77 (.slice (some ⟨g, 0, none⟩) n cap) l') (hg8 : v.ownBlock = some g ∨ g = W3.heap.size + 1) :
    StrW (w8.setCell ⟨q, 0, none⟩ (.slice (some ⟨g, 0, none⟩) n cap)) q B (.slice (some ⟨g, 0, none⟩) n cap) l' is k ∧ Frm (Fq q v) W3 (w8.setCell ⟨q, 0, none⟩ (.slice (some ⟨g, 0, none⟩) n cap)) ∧
      ((Value.slice (some ⟨g, 0, none⟩) n cap).ownBlock = v.ownBlock ∨ ∀ j, (Value.slice (some ⟨g, 0, none⟩) n cap).ownBlock = some j → W3.heap.size ≤ j) := by
  obtain ⟨hR, hQ, hI, hN⟩ := h
  have hv : ∀ j, v.ownBlock = some j → B ≤ j := fun j e => (hR.lt j e).1
  have X := (hQ.alloc o).grown g8 (fun e => by have := hv _ e.symm; omega)
  have Y := (hI.alloc o).grown g8 (fun e => by have := hv _ e.symm; omega)
  have Z := (hN.alloc o).grown g8 (fun e => by have := hv _ e.symm; omega)
  have F9 := (Frm.refl (fun j => j = q) w8).set (b := q) (j := 0) rfl (.slice (some ⟨g, 0, none⟩) n cap)
  refine ⟨⟨I8.frm F9 (fun j e h => ?_), ?_, Y.frm F9 (by omega), Z.frm F9 (by omega)⟩, ?_, ?_⟩
  · have := (I8.lt j e).1; omega
  · have := X.set_ 0 (.slice (some ⟨g, 0, none⟩) n cap); simpa using this
  · exact (((Frm.refl (Fq q v) W3).alloc o).grown g8 (fun j e _ => .inr (.inr (.inr e)))).set (b := q) (j := 0) (.inl rfl) _
  · rcases hg8 with h | h
    · left; rw [h]; rfl
    · right
      intro j e
      have : g = j := by simpa [Value.ownBlock] using e
      omega
theorem str_put {W9 : World} {q B g n cap k i j : Nat} {l : List (List UInt8 × Int)} {is : Bool} {x y : List UInt8 × Int} {u : Value} (hq : q + 1 + 1 < B) (h : StrW W9 q B (.slice (some ⟨g, 0, none⟩) n cap) l is k) (hi : l[i]? = some x) (hj : j < 2) (hy : stC y = (stC x).set j u) :
    StrW (W9.setCell ⟨g, i * 2 + j, none⟩ u) q B (.slice (some ⟨g, 0, none⟩) n cap) (l.set i y) is k ∧ Frm (Fq q (.slice (some ⟨g, 0, none⟩) n cap)) W9 (W9.setCell ⟨g, i * 2 + j, none⟩ u) := by
  have hg := (h.row.lt g rfl).1
  have F9 := (Frm.refl (fun j => j = g) W9).set (b := g) (j := i * 2 + j) rfl u
  exact ⟨⟨h.row.set encT hi hj hy, h.rq.frm F9 (by omega), h.ri.frm F9 (by omega), h.rn.frm F9 (by omega)⟩, F9.mono (fun i _ e => .inr (.inr (.inr (by rw [e]; rfl))))⟩
theorem str_is {W9 : World} {q B k : Nat} {v : Value} {l : List (List UInt8 × Int)} {is : Bool} (hq : q + 1 + 1 < B) (h : StrW W9 q B v l is k) (x : Bool) :
    StrW (W9.setCell ⟨q + 1, 0, none⟩ (.bool x)) q B v l x k ∧ Frm (Fq q v) W9 (W9.setCell ⟨q + 1, 0, none⟩ (.bool x)) := by
  have F9 := (Frm.refl (fun j => j = q + 1) W9).set (b := q + 1) (j := 0) rfl (.bool x)
  refine ⟨⟨h.row.frm F9 (fun j e h2 => ?_), h.rq.frm F9 (by omega), ?_, h.rn.frm F9 (by omega)⟩, F9.mono (fun i _ e => .inr (.inl e))⟩
  · have := (h.row.lt j e).1; omega
  · have := h.ri.set_ 0 (.bool x); simpa using this
/-- The end of a round. -/
theorem str_end {w1 W W2 W' : World} {q k : Nat} {b : Int} {s : ByteArray} {ls : List Int} {S : Nat → Prop} {v v' : Value} (hq : q + 1 + 1 < w1.heap.size) (hS : ∀ j, S j ↔ (j = q ∨ j = q + 1 ∨ j = q + 1 + 1 ∨ j = w1.heap.size + 1 ∨ v.ownBlock = some j))
    (hv : ∀ j, v.ownBlock = some j → w1.heap.size + 2 ≤ j) (hF : Frm (fun j => j = q ∨ j = q + 1 ∨ j = q + 1 + 1) w1 W) (hsz : w1.heap.size + 1 < W.heap.size) (F2 : Frm (fun j => j = w1.heap.size + 1) W W2)
    (F3 : Frm (Fq q v) W2 W') (hr : StrW W' q (w1.heap.size + 2) v' (strL b s ls (k + 1)) (stT b s ls (k + 1)).is (k + 1))
    (hv' : v'.ownBlock = v.ownBlock ∨ ∀ j, v'.ownBlock = some j → W2.heap.size ≤ j) :
    Two w1.heap.size W2 W' ∧ S (w1.heap.size + 1) ∧ ∃ S', StrAt w1 q b s ls (k + 1) S' W' ∧ Frm S W W' ∧ ∀ j, S' j → S j ∨ W.heap.size ≤ j := by
  have hz2 := F2.size
  have hz3 := F3.size
  have FS : Frm S W W' := (F2.mono (F' := S) (fun i _ e => (hS i).2 (.inr (.inr (.inr (.inl e)))))).trans F3 (fun i _ e => (hS i).2 (by
    rcases e with e | e | e | e
    · exact .inl e
    · exact .inr (.inl e)
    · exact .inr (.inr (.inl e))
    · exact .inr (.inr (.inr (.inr e)))))
  refine ⟨Two.of_frm F3 (by omega) (fun e => ?_) (fun e => ?_), (hS _).2 (.inr (.inr (.inr (.inl rfl)))), (fun j => j = q ∨ j = q + 1 ∨ j = q + 1 + 1 ∨ j = w1.heap.size + 1 ∨ v'.ownBlock = some j), ⟨v', fun _ => Iff.rfl, hr.row, hr.rq, hr.ri, hr.rn, hF.trans FS (fun i hi e => ?_), by omega⟩, FS, fun j e => ?_⟩
  · rcases e with e | e | e | e
    · omega
    · omega
    · omega
    · have := hv _ e; omega
  · rcases e with e | e | e | e
    · omega
    · omega
    · omega
    · have := hv _ e; omega
  · rcases (hS i).1 e with e | e | e | e | e
    · exact .inl e
    · exact .inr (.inl e)
    · exact .inr (.inr e)
    · omega
    · have := hv _ e; omega
  · rcases e with e | e | e | e | e
    · exact .inl ((hS j).2 (.inl e))
    · exact .inl ((hS j).2 (.inr (.inl e)))
    · exact .inl ((hS j).2 (.inr (.inr (.inl e))))
    · exact .inl ((hS j).2 (.inr (.inr (.inr (.inl e)))))
    · rcases hv' with h | h
      · rw [h] at e; exact .inl ((hS j).2 (.inr (.inr (.inr (.inr e)))))
      · have := h j e; right; omega

set_option maxRecDepth 100000 in
set_option maxHeartbeats 4000000 in
theorem stretches_ok {w : World} {s : ByteArray} {b : Int} {ls : List Int} {A : Option Addr} {n c B : Nat} (hT : Lib.Utf8Tabs 0 1 w) (h2 : 2 ≤ w.heap.size) (hs : s.size ≤ 1099511627776) (hL : RdInts w B .i8 A ls) (hn : n = ls.length) (hl : (chs s).length ≤ n) :
    Calls Tryd.prog 39 #[.string s, .int .i8 b, .slice A n c] w fun r w' => ∃ v, r = .returned v ∧ Rw stC 2 w' w.heap.size 77 v (strL b s ls (chs s).length) ∧ Aft w w' := by
  replace hL : RdInts w w.heap.size .i8 A ls := Reads.clip hL
  have HN := Lib.hid hn
  clear hn
  obtain ⟨q, hq⟩ : ∃ q, w.heap.size + 3 = q := ⟨_, rfl⟩
  refine (callsIn_wide (n := 5)).1 ?_
  refine callsIn_of_wp_marks Tryd.func39 rfl trivial ?_ rfl
  simp only [Tryd.ntmps39, List.size_toArray, List.length_cons, List.length_nil, Nat.reduceAdd, Nat.reduceSub, Array.replicate_succ, Array.replicate_zero, List.push_toArray, List.append_toArray, List.nil_append, List.cons_append]
  refine wpIn_wide.2 ?_
  go_upto_region 4 with (fail)
  obtain ⟨W0, hW0⟩ : ∃ W0, (((((w.alloc (.cells #[.string s] 9)).alloc (.cells #[.int .i8 b] 32)).alloc (.cells #[.slice A n c] 33)).alloc (.cells #[.slice none 0 0] 74)).alloc (.cells #[.bool false] 4)).alloc (.cells #[.int .i64 0] 3) = W0 := ⟨_, rfl⟩
  have a0 : Aft w W0 := by rw [← hW0]; exact ((((((Aft.refl w).alloc _).alloc _).alloc _).alloc _).alloc _).alloc _
  have BT : Blk W0 w.heap.size 9 #[.string s] := by rw [← hW0]; exact (((((Blk.new w 9 #[.string s]).alloc _).alloc _).alloc _).alloc _).alloc _
  have BB : Blk W0 (w.heap.size + 1) 32 #[.int .i8 b] := by rw [← hW0]; exact ((((Blk.at_ (by simp)).alloc _).alloc _).alloc _).alloc _
  have BL : Blk W0 (w.heap.size + 1 + 1) 33 #[.slice A n c] := by rw [← hW0]; exact (((Blk.at_ (by simp)).alloc _).alloc _).alloc _
  have BQ : Blk W0 q 74 #[.slice none 0 0] := by rw [← hW0]; exact ((Blk.at_ (by simp; omega)).alloc _).alloc _
  have BI : Blk W0 (q + 1) 4 #[.bool false] := by rw [← hW0]; exact (Blk.at_ (by simp; omega)).alloc _
  have BN : Blk W0 (q + 1 + 1) 3 #[.int .i64 0] := by rw [← hW0]; exact Blk.at_ (by simp; omega)
  rw [hW0]
  have hbs : W0.heap.size = q + 3 := by rw [← hW0]; simp; omega
  clear hW0
  obtain ⟨x0, xf, xl⟩ := BT.c1
  go_wp2_with (go_at_call 50; refine Spots_ok.mono ?_; rintro r1 w1 ⟨rfl, BS, b1⟩)
  have HT1 := tabs_aft hT (a0.trans b1)
  rw [hbs] at BS
  have hs1 : q + 3 < w1.heap.size := BS.lt
  have hqq : q + 1 + 1 < w1.heap.size := by omega
  have BT1 := BT.aft b1
  have BB1 := BB.aft b1
  have BL1 := BL.aft b1
  have BQ1 := BQ.aft b1
  have BI1 := BI.aft b1
  have BN1 := BN.aft b1
  have a1 := a0.trans b1
  clear x0 xf xl BT BB BL BQ BI BN a0 b1 hbs hT
  have HQ := Lib.hid hq
  clear hq
  refine wpIn_wide.1 (wpIn_rangeFunc_round (n := 5) (F := Fence.wide) rfl (by omega) (gf := 68) (lb := #[.pointer (some ⟨q + 3, 0, none⟩)]) rfl trivial (enters_of Tryd.func68 (by kernel_rfl) rfl)
    (encs := fun x : Nat × (Nat → Prop) × Int => encS ((chs s).getD x.1 default) x.2.2) (fun _ => rfl)
    (fun x W => StrAt w1 q b s ls x.1 x.2.1 W ∧ x.1 < (chs s).length)
    (fun x W W' => x.2.1 (w1.heap.size + 1) ∧ ∃ S', StrAt w1 q b s ls (x.1 + 1) S' W' ∧ Frm x.2.1 W W' ∧ ∀ j, S' j → x.2.1 j ∨ W.heap.size ≤ j)
    (fun W => ∃ S, StrAt w1 q b s ls (chs s).length S W)
    ?round ?stay ?call ?fin ?done)
  case stay =>
    rintro x W Wa Wb ⟨h1, S', h2, h3, h4⟩ hF
    exact ⟨h1, S', h2.frm hqq (Nat.le_refl _) (.inl rfl) hF, h3.trans hF (fun j hj e => by rw [e]; exact h1), h4⟩
  case fin =>
    rintro Wa Wb ⟨S, h⟩ hF
    exact ⟨S, h.frm hqq (Nat.le_refl _) (.inl rfl) hF⟩
  case call =>
    intro W1 hF1 hW1 Rdy hsz hst hR1 hY
    have hY' : ∀ k S W (hk : k < (chs s).length) e, (StrAt w1 q b s ls k S W ∧ Rdy W) → YieldAt Fence.wide (5 - 1 - 1) Tryd.prog (w1.heap.size + 1) (encS ((chs s)[k]) e) W fun e W' =>
      (e = .returned (.bool true) ∧ ∃ S', (StrAt w1 q b s ls (k + 1) S' W' ∧ Rdy W') ∧ Frm S W W' ∧ ∀ j, S' j → S j ∨ W.heap.size ≤ j) ∨ (e = .returned (.bool false) ∧ False) := by
      intro k S W hk e h
      have e1 : encS ((chs s)[k]) e = encS ((chs s).getD k default) e := by rw [List.getD_eq_getElem?_getD, List.getElem?_eq_getElem hk]; rfl
      rw [e1]
      obtain ⟨fn, tmps, asg, bd, hy, hRo⟩ := hY (k, S, e) W ⟨h.1, hk⟩ h.2
      refine ⟨fn, tmps, asg, bd, hy, hRo.mono fun e w' h => ?_⟩
      obtain ⟨h1, ⟨_, S', h2, h3, h4⟩, h5⟩ := h
      exact .inl ⟨h1, S', ⟨h2, h5⟩, h3, h4⟩
    have T : Tells W1.heap.size (fun k S W => StrAt w1 q b s ls k S W ∧ Rdy W) := by
      refine ⟨?_, ?_⟩
      · rintro k S W ⟨⟨v, h1, h2, h3, h4, h5, h6, h7⟩, _⟩ j hj
        rcases (h1 j).1 hj with e | e | e | e | e
        · rw [e]; exact h3.lt
        · rw [e]; exact h4.lt
        · rw [e]; exact h5.lt
        · omega
        · exact (h2.lt j e).2
      · rintro k S W W' i hi hS ⟨h, hr⟩ hF
        have h5 : w1.heap.size + 1 < W.heap.size := by obtain ⟨_, _, _, _, _, _, _, h5⟩ := h; exact h5
        exact ⟨h.frm hqq (by omega) (.inr hS) hF, hst _ _ hr (Two.of_frm hF h5 (by omega) (by omega))⟩
    have I0 : StrAt w1 q b s ls 0 (fun j => j = q ∨ j = q + 1 ∨ j = q + 1 + 1 ∨ j = w1.heap.size + 1 ∨ (Value.slice none 0 0).ownBlock = some j) W1 :=
      ⟨.slice none 0 0, fun _ => Iff.rfl, Rw.nil _ _ _, BQ1.frm hF1 id, BI1.frm hF1 id, BN1.frm hF1 id, hF1.mono (fun _ _ e => e.elim), hW1⟩
    have hqw := HQ.out
    have := iter_spots (BS.frm hF1 id) (tabs_frm HT1 hF1 id id) T (Jx := fun _ => False) ⟨I0, hR1⟩ (fun j hj => by
      rcases hj with e | e | e | e | e
      · omega
      · omega
      · omega
      · omega
      · simp [Value.ownBlock] at e) (by omega) (d := 5 - 1) (by omega) hY'
    refine this.mono ?_
    rintro e W2 ⟨hv, (⟨S, h1, h2⟩ | h)⟩
    · exact ⟨hv, ⟨S, h1⟩, h2⟩
    · exact h.elim
  case round =>
    rintro ⟨k, S, e⟩ W K hW ⟨hA, hkl⟩ hK
    obtain ⟨v, hS, hR, hQ, hI, hN, hF, hsz⟩ := hA
    simp only at hS hR hQ hI hN hkl ⊢
    have hsS : stT b s ls (k + 1) = grS (stT b s ls k) (cut s ((chs s).getD k default)) (ls.getD k 0) := rfl
    have hsL := strL_succ b s ls k
    have hlv : k < ls.length := by have := HN.out; omega
    have hd0 := stT_done0 b s ls k
    have hfst := stT_fst b s ls k (by omega)
    have hseg := seg_len s k
    have hsn := stT_len b s ls k
    rw [← hfst] at hseg
    have hcp := chA_mem s 0 _ (getD_mem0 default hkl)
    have hcl2 := chs_len s
    obtain ⟨c, hc⟩ : ∃ c, (chs s).getD k default = c := ⟨_, rfl⟩
    have hc0 : (chA s 0).getD k default = c := hc
    rw [hc0] at hcp
    rw [hc] at hsS ⊢
    obtain ⟨hq0, hq1, hq2⟩ : w.heap.size < q ∧ w.heap.size + 1 < q ∧ w.heap.size + 1 + 1 < q := by have := HQ.out; omega
    have hT2 := BT1.frm hF (by omega)
    have hB2 := BB1.frm hF (by omega)
    have hL2 := BL1.frm hF (by omega)
    have aW : Aft w W := Below.trans a1 (Frm.below hF (by have := a1.size; omega) (fun i hi e => by omega))
    have hLr := hL.below aW (.inl (Nat.le_refl _))
    obtain ⟨lb, loff, rfl, hlb1, hlb2, hlc⟩ := hLr.at_ hlv
    obtain ⟨l, hlx⟩ : ∃ l, ls.getD k 0 = l := ⟨_, rfl⟩
    rw [hlx] at hsS hlc
    obtain ⟨G, hG⟩ : ∃ G, stT b s ls k = G := ⟨_, rfl⟩
    have hR' : strL b s ls k = if k = 0 then [] else grL G := by rw [← hG]; rfl
    rw [hG] at hI hsS hd0 hseg hsn
    rw [hR'] at hR
    rw [hsS] at hsL
    obtain ⟨r, cb, cn⟩ := c
    simp only at hcp
    obtain ⟨-, hb1, -, -, hn1, hbn⟩ := hcp
    have HSS := Lib.hid hsS
    have HSL := Lib.hid hsL
    have HD0 := Lib.hid hd0
    have HHG := Lib.hid hG
    clear hsS hsL hd0 hfst hc hc0 hG hR' hlx
    simp only [encS, List.zip_toArray, List.zip_cons_cons, List.zip_nil_right, List.foldl_toArray, List.foldl_cons, List.foldl_nil, List.setIfInBounds_toArray, List.set_cons_zero, List.set_cons_succ]
    gi_wp2
    have FA := (Frm.refl (fun _ => False) W).alloc (.cells #[.int .i64 cb, .int .i64 cn, .int .i32 r, .int .i64 e] 96)
    refine hK _ _ (Two.of_frm (F := fun _ => False) FA hW id id) ?_
    intro W2 hF2
    have F2 := (FA.mono (F' := fun i => i = w1.heap.size + 1) (fun _ _ e => e.elim)).trans hF2 (fun _ _ e => e)
    have S2 := (Blk.new W 96 #[.int .i64 cb, .int .i64 cn, .int .i32 r, .int .i64 e]).frm hF2 (by omega)
    have hR0 := hR
    have R2 := hR.frm F2 (fun i hi e => by have := (hR.lt i hi).1; omega)
    have Q2 := hQ.frm F2 (by omega)
    have I2 := hI.frm F2 (by omega)
    have N2 := hN.frm F2 (by omega)
    have T2 := hT2.frm F2 (by omega)
    have B2 := hB2.frm F2 (by omega)
    have L2 := hL2.frm F2 (by omega)
    have hlc2 : W2.cell? ⟨lb, loff + k, none⟩ = some (.int .i8 l) := (World.cell?_of_block (F2.block lb hlb2 (by have := a1.size; omega))).trans hlc
    obtain ⟨x0, x1, x2, x3, xf, xl⟩ := S2.c4
    obtain ⟨n0, nf, nl⟩ := N2.c1
    obtain ⟨t0, tf, tl⟩ := T2.c1
    obtain ⟨l0, lf, ll⟩ := L2.c1
    clear hK hR hQ hI hN hT2 hB2 hL2
    gi_wp2
    refine wpIn_region_reads (fun _ => trivial) (by kernel_rfl) (by kernel_rfl) (by kernel_rfl) ?_
    repeat (refine still_plain rfl rfl ?_; intro K hK; go_wp2)
    refine wpStill_nil ?_
    gi_upto_region 8 with (fail)
    have F3a : Frm (fun j => j = q + 1 + 1) W2 ((W2.setCell ⟨q + 1 + 1, 0, none⟩ (.int .i64 ((k : Int) + 1))).drew) := ((Frm.refl (fun j => j = q + 1 + 1) W2).set (b := q + 1 + 1) (j := 0) rfl (.int .i64 ((k : Int) + 1))).drew
    have hvl := hR0.lt
    have R3 := R2.frm F3a (fun i hi e => by have := (R2.lt i hi).1; omega)
    have Q3 := Q2.frm F3a (by omega)
    have I3 := I2.frm F3a (by omega)
    have B3 := B2.frm F3a (by omega)
    have N3 : Blk ((W2.setCell ⟨q + 1 + 1, 0, none⟩ (.int .i64 ((k : Int) + 1))).drew) (q + 1 + 1) 3 #[.int .i64 (k + 1 : Nat)] := by have := (N2.set_ 0 (.int .i64 ((k : Int) + 1))).drew; simpa using this
    generalize (W2.setCell ⟨q + 1 + 1, 0, none⟩ (.int .i64 ((k : Int) + 1))).drew = W3 at *
    have hz2 := F2.size
    have hz3 := F3a.size
    clear x0 x1 x2 x3 xf xl n0 nf nl t0 tf tl l0 lf ll hlc2 R2 Q2 I2 N2 T2 B2 L2 S2 FA hF2
    have A3 : StrW W3 q (w1.heap.size + 2) v (if k = 0 then [] else grL G) G.is (k + 1) := ⟨R3, Q3, I3, N3⟩
    have F3b : Frm (Fq q v) W2 W3 := F3a.mono (fun _ _ e => .inr (.inr (.inl e)))
    have hvb : ∀ j, v.ownBlock = some j → w1.heap.size + 2 ≤ j := fun j e => (R3.lt j e).1
    have fin : ∀ W' v' l' is', StrW W' q (w1.heap.size + 2) v' l' is' (k + 1) → Frm (Fq q v) W2 W' → (v'.ownBlock = v.ownBlock ∨ ∀ j, v'.ownBlock = some j → W2.heap.size ≤ j) → l' = grL (grS G (cut s ⟨r, cb, cn⟩) l) → is' = (grS G (cut s ⟨r, cb, cn⟩) l).is →
        Two w1.heap.size W2 W' ∧ S (w1.heap.size + 1) ∧ ∃ S', StrAt w1 q b s ls (k + 1) S' W' ∧ Frm S W W' ∧ ∀ j, S' j → S j ∨ W.heap.size ≤ j := fun W' v' l' is' h1 h2 h3 h4 h5 => by
      subst h4 h5
      refine str_end hqq hS hvb hF hsz F2 h2 ?_ h3
      rw [HSL.out, HSS.out]
      exact h1
    have FIN := Lib.hid fin
    clear fin hS R3 Q3 I3 N3 F3a
    have hcut : txt (cut s ⟨r, cb, cn⟩) = s.extract cb (cb + cn) := txt_of _
    generalize cut s ⟨r, cb, cn⟩ = ct at *
    by_cases hk0 : k = 0
    · subst hk0
      rw [if_pos rfl] at A3
      have hG0 : G = ⟨[], [], b, false⟩ := HHG.out.symm
      subst hG0
      obtain ⟨A9, cap3, rfl, -, -, -⟩ := A3.row.val
      obtain ⟨q0, qf, ql⟩ := A3.rq.c1
      obtain ⟨b0, bf, bl⟩ := B3.c1
      have hy : stC (ct, b) = [.string (s.extract cb (cb + cn)), .int .i8 b] := by unfold stC; rw [hcut]
      rcases hlg : (l != -1) with _ | _
      · have hl1 : l = -1 := by simpa using hlg
        have hgr : grS ⟨[], [], b, false⟩ ct l = ⟨[], ct, b, false⟩ := by unfold grS; rw [if_pos (.inl hl1)]; simp
        rw [hgr] at FIN
        gi_wp2_with (gi_at_builtin; go_must (refine wpListIn_appR encT etT rfl rfl rfl (A3.row.alloc _) (y := (ct, b)) rfl (Blk.new _ _ _) hy.symm ?_ ?_ ?_ ?_))
        · simp [maxLen]
        · omega
        intro g cap w8 I8 g8 hg8
        obtain ⟨K1, K2, K3⟩ := str_app (by omega) A3 g8 I8 hg8
        have X := (A3.rq.alloc (.cells #[.string (s.extract cb (cb + cn)), .int .i8 b] 77)).grown g8 (fun e => by have := hvb _ e.symm; omega)
        obtain ⟨X0, Xf, Xl⟩ := X.c1
        gi_wp2
        exact FIN.out _ _ _ _ K1 (Fq.trans F3b K2 (.inl rfl)) (K3.imp id (fun h j e => Nat.le_trans hz3 (h j e))) rfl rfl
      · have hl1 : l ≠ -1 := by simpa using hlg
        have hgr : grS ⟨[], [], b, false⟩ ct l = ⟨[], ct, l, true⟩ := by unfold grS; rw [if_neg (by simp [hl1]), if_pos rfl]; simp
        rw [hgr] at FIN
        gi_wp2_with (gi_at_builtin; go_must (refine wpListIn_appR encT etT rfl rfl rfl (A3.row.alloc _) (y := (ct, b)) rfl (Blk.new _ _ _) hy.symm ?_ ?_ ?_ ?_))
        · simp [maxLen]
        · omega
        intro g cap w8 I8 g8 hg8
        obtain ⟨K1, K2, K3⟩ := str_app (by omega) A3 g8 I8 hg8
        have X := (A3.rq.alloc (.cells #[.string (s.extract cb (cb + cn)), .int .i8 b] 77)).grown g8 (fun e => by have := hvb _ e.symm; omega)
        obtain ⟨X0, Xf, Xl⟩ := X.c1
        gi_upto_region 12 with (fail)
        obtain ⟨P1, P2⟩ := str_put (i := 0) (j := 1) (y := (ct, l)) (u := .int .i8 l) (by omega) K1 rfl (by omega) rfl
        obtain ⟨P3, P4⟩ := str_is (by omega) P1 true
        have hK := K1.row.at_ encT
        have hc0 := hK.2.2.2.2.2.2 0 _ rfl 1 _ rfl
        have hc1 := hK.2.2.2.2.2.1 1
        rw [Nat.zero_mul, Nat.zero_add] at hc0
        obtain ⟨y0, yf, yl⟩ := K1.rq.c1
        obtain ⟨z0, zf, zl⟩ := K1.ri.c1
        rw [Nat.zero_mul, Nat.zero_add] at P1 P2 P3 P4
        generalize w8.setCell ⟨q, 0, none⟩ (.slice (some ⟨g, 0, none⟩) 1 cap) = W9 at *
        have FF := Lib.hid (And.intro P3 (And.intro (Fq.trans (Fq.trans F3b K2 (.inl rfl)) (P2.trans P4 (fun _ _ e => e)) (K3.imp id (fun h j e => Nat.le_trans hz3 (h j e)))) (K3.imp id (fun h j e => Nat.le_trans hz3 (h j e)))))
        clear P1 P2 P3 P4 K1 K2 K3 hK hgr hy g8 I8 hg8 X X0 Xf Xl A3 q0 qf ql
        gi_wp2
        obtain ⟨e1, e2, e3⟩ := FF.out
        exact FIN.out _ _ _ _ e1 e2 e3 rfl rfl
    · rw [if_neg hk0] at A3
      obtain ⟨dn, gd, gl, gs⟩ := G
      have hgd : (txt gd).size ≤ s.size := by
        rw [txt_size]
        have : gd.length ≤ ((grL ⟨dn, gd, gl, gs⟩).flatMap (·.1)).length := by unfold grL; simp
        omega
      have hsn2 : dn.length ≤ k := by unfold grL at hsn; simp at hsn; exact hsn
      have hli : (grL ⟨dn, gd, gl, gs⟩)[dn.length]? = some (gd, gl) := by unfold grL; simp
      have hlset : ∀ y, (grL ⟨dn, gd, gl, gs⟩).set dn.length y = dn ++ [y] := fun y => by
        unfold grL
        rw [List.set_append_right _ _ (Nat.le_refl _), Nat.sub_self]; rfl
      have hll : (grL ⟨dn, gd, gl, gs⟩).length = dn.length + 1 := by unfold grL; simp
      have hgl2 : grL ⟨dn, gd, gl, gs⟩ = dn ++ [(gd, gl)] := rfl
      obtain ⟨m, hm⟩ : ∃ m, dn.length = m := ⟨_, rfl⟩
      rw [hm] at hsn2 hli hlset hll
      rcases A3.row.cases' with ⟨_, e⟩ | ⟨g, cap3, e9, _⟩
      · rw [e] at hll; cases hll
      rw [hll] at e9
      subst e9
      have hK := A3.row.at_ encT
      have hc0 := hK.2.2.2.2.2.2 m _ hli 0 _ rfl
      have hc1 := hK.2.2.2.2.2.2 m _ hli 1 _ rfl
      have hf0 := hK.2.2.2.2.2.1 (m * 2)
      have hf1 := hK.2.2.2.2.2.1 (m * 2 + 1)
      rw [Nat.add_zero] at hc0
      obtain ⟨q0, qf, ql⟩ := A3.rq.c1
      obtain ⟨i0, if0, il⟩ := A3.ri.c1
      obtain ⟨b0, bf, bl⟩ := B3.c1
      have hgne : g ≠ q + 1 := by have := hvb g rfl; omega
      have hgne2 : g ≠ q := by have := hvb g rfl; omega
      have htx : txt gd ++ s.extract cb (cb + cn) = txt (gd ++ ct) := by rw [← hcut, txt_cat]
      have HTX := Lib.hid htx
      have HLI := Lib.hid hli
      have HLS := Lib.hid hlset
      have HLL := Lib.hid hll
      have HM := Lib.hid hm
      clear hK hli hlset hll hm htx hseg hsn
      by_cases hA : l = -1 ∨ (gs = true ∧ l = gl)
      · have hgr : grS ⟨dn, gd, gl, gs⟩ ct l = ⟨dn, gd ++ ct, gl, gs⟩ := by unfold grS; rw [if_pos hA]
        rw [hgr] at FIN
        have hP := str_put (i := m) (j := 0) (y := (gd ++ ct, gl)) (u := .string (txt (gd ++ ct))) (by omega) A3 HLI.out (by omega) rfl
        rw [HLS.out, Nat.add_zero] at hP
        have HP := Lib.hid hP
        clear hP hgr hgl2
        rcases hA with hA | ⟨hA1, hA2⟩
        · subst hA
          gi_wp2
          rw [HTX.out]
          exact FIN.out _ _ _ _ HP.out.1 (Fq.trans F3b HP.out.2 (.inl rfl)) (.inl rfl) rfl rfl
        · subst hA1
          subst hA2
          rcases hl1 : (l == -1) with _ | _
          · gi_wp2
            rw [HTX.out]
            exact FIN.out _ _ _ _ HP.out.1 (Fq.trans F3b HP.out.2 (.inl rfl)) (.inl rfl) rfl rfl
          · gi_wp2
            rw [HTX.out]
            exact FIN.out _ _ _ _ HP.out.1 (Fq.trans F3b HP.out.2 (.inl rfl)) (.inl rfl) rfl rfl
      · have hl1 : (l == -1) = false := by simp; exact fun h => hA (.inl h)
        rcases gs with _ | _
        · have hgr : grS ⟨dn, gd, gl, false⟩ ct l = ⟨dn, gd ++ ct, l, true⟩ := by unfold grS; rw [if_neg hA, if_pos rfl]
          rw [hgr] at FIN
          obtain ⟨P1, P2⟩ := str_put (i := m) (j := 0) (y := (gd ++ ct, gl)) (u := .string (txt (gd ++ ct))) (by omega) A3 HLI.out (by omega) rfl
          rw [HLS.out, Nat.add_zero] at P1
          rw [Nat.add_zero] at P2
          have hm2 : (dn ++ [(gd ++ ct, gl)])[m]? = some (gd ++ ct, gl) := by have := HM.out; subst this; simp
          obtain ⟨P3, P4⟩ := str_put (i := m) (j := 1) (y := (gd ++ ct, l)) (u := .int .i8 l) (by omega) P1 hm2 (by omega) rfl
          have hset : (dn ++ [(gd ++ ct, gl)]).set m (gd ++ ct, l) = dn ++ [(gd ++ ct, l)] := by have := HM.out; subst this; simp
          rw [hset] at P3
          obtain ⟨P5, P6⟩ := str_is (by omega) P3 true
          have FF := Lib.hid (And.intro P5 (Fq.trans F3b ((P2.trans P4 (fun _ _ e => e)).trans P6 (fun _ _ e => e)) (.inl rfl)))
          clear P1 P2 P3 P4 P5 P6 hm2 hset hgr hgl2
          gi_wp2
          rw [HTX.out]
          exact FIN.out _ _ _ _ FF.out.1 FF.out.2 (.inl rfl) rfl rfl
        · have hlg : (l == gl) = false := by simp; exact fun h => hA (.inr ⟨rfl, h⟩)
          have hgr : grS ⟨dn, gd, gl, true⟩ ct l = ⟨dn ++ [(gd, gl)], ct, l, true⟩ := by unfold grS; rw [if_neg hA, if_neg (by simp)]
          rw [hgr] at FIN
          have hy : stC (ct, l) = [.string (s.extract cb (cb + cn)), .int .i8 l] := by unfold stC; rw [hcut]
          have HY := Lib.hid hy
          clear hgr hy hgl2
          gi_wp2_with (gi_at_builtin; go_must (refine wpListIn_appR encT etT rfl rfl rfl (A3.row.alloc _) (y := (ct, l)) rfl (Blk.new _ _ _) HY.out.symm ?_ ?_ ?_ ?_))
          · rw [HLL.out]; unfold maxLen; omega
          · rw [HLL.out]; omega
          · omega
          intro g5 cap5 w8 I8 g8 hg8
          rw [HLL.out] at I8 ⊢
          obtain ⟨K1, K2, K3⟩ := str_app (by omega) A3 g8 I8 hg8
          have X := (A3.rq.alloc (.cells #[.string (s.extract cb (cb + cn)), .int .i8 l] 77)).grown g8 (fun e => by have := hvb _ e.symm; omega)
          obtain ⟨X0, Xf, Xl⟩ := X.c1
          have FF := Lib.hid (And.intro K1 (And.intro (Fq.trans F3b K2 (.inl rfl)) (K3.imp id (fun h j e => Nat.le_trans hz3 (h j e)))))
          clear K1 K2 K3 X g8 I8 hg8
          gi_wp2
          obtain ⟨e1, e2, e3⟩ := FF.out
          exact FIN.out _ _ _ _ e1 e2 e3 rfl rfl
  case done =>
    rintro W ⟨S, v, hS, hR, hQ, hI, hN, hF, hsz⟩ hK
    have aW : Aft w W := Below.trans a1 (Frm.below hF (by have := a1.size; omega) (fun i hi e => by have := HQ.out; omega))
    obtain ⟨q0, qf, ql⟩ := hQ.c1
    go_wp2_with (fail)
    have FF := (Frm.refl (fun k => k = w1.heap.size) W).put (k := w1.heap.size) rfl (.deferred none)
    have hws := aW.size
    refine ⟨by simp, .inl ⟨_, _, rfl, run_takeDeferred hK, ?_⟩⟩
    refine ⟨_, results_tmp rfl _ _ _, ⟨v, rfl, ?_, Below.trans aW (FF.below hws (fun k hk e => by have := a1.size; omega))⟩⟩
    exact (hR.frm FF (fun j e h => by have := (hR.lt j e).1; omega)).base (fun j e => by have := (hR.lt j e).1; have := a1.size; omega)
end Go.Proofs.YtaekdnfpgkfjkaaDoor
