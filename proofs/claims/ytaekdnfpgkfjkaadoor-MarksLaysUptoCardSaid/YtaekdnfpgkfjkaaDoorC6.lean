/- Strip walked. -/
import Derived.Test.YtaekdnfpgkfjkaaDoorC5
import Derived.Test.YtaekdnfpgkfjkaaDoorC4
import Derived.Test.YtaekdnfpgkfjkaaDoorB2
import Derived.RangeFuncCalls
import Derived.Test.YtaekdnfpgkfjkaaDoorD6
namespace Go.Proofs.YtaekdnfpgkfjkaaDoor
open Go.RowKit
attribute [local go_sem] Oper.semAt_some

/-- What is no mark. -/
def keptM (s : ByteArray) (l : List Ch) : List UInt8 := (l.filter fun c => !isM c.r).flatMap (cut s)
def cntM (l : List Ch) : Nat := (l.filter fun c => isM c.r).length
def stripL (s : ByteArray) : List UInt8 := keptM s (chs s)
theorem cntM_le (l : List Ch) : cntM l ≤ l.length := List.length_filter_le _ _

def StripAt (w1 : World) (bb nb : Nat) (s : ByteArray) (k : Nat) (S : Nat → Prop) (W : World) : Prop :=
  ∃ p v, (∀ j, S j ↔ (j = bb ∨ j = nb ∨ j = w1.heap.size + 1 ∨ v.ownBlock = some j)) ∧ Bld W (w1.heap.size + 2) bb 0 73 #[p, v] p v (keptM s ((chs s).take k)) ∧ Blk W nb 3 #[.int .i64 (cntM ((chs s).take k))] ∧
    Frm (fun j => j = bb ∨ j = nb) w1 W ∧ w1.heap.size + 1 < W.heap.size
theorem Bld.frm {w w' : World} {B b o : Nat} {T : TypeId} {cs : Array Value} {p v : Value} {l : List UInt8} {F : Nat → Prop} (h : Bld w B b o T cs p v l) (hF : Frm F w w') (hb : ¬ F b) (hv : ∀ i, v.ownBlock = some i → ¬ F i) : Bld w' B b o T cs p v l :=
  ⟨h.blk.frm hF hb, h.hp, h.hv, h.pk, own_frm h.own hF hv, h.ne, h.nl, h.lies⟩
theorem Bld.row {w : World} {B b o : Nat} {T : TypeId} {cs : Array Value} {p v : Value} {l : List UInt8} (h : Bld w B b o T cs p v l) {i : Nat} (hi : v.ownBlock = some i) : B ≤ i ∧ i < w.heap.size := World.ownsRow.lt h.own i hi
theorem StripAt.frm {w1 W W' : World} {bb nb k : Nat} {s : ByteArray} {S : Nat → Prop} (h : StripAt w1 bb nb s k S W) (hb : bb < w1.heap.size) (hn : nb < w1.heap.size) {i : Nat} (hi : w1.heap.size + 1 ≤ i) (hS : i = w1.heap.size + 1 ∨ ¬ S i) (hF : Frm (fun j => j = i) W W') : StripAt w1 bb nb s k S W' := by
  obtain ⟨p, v, h1, h2, h3, h4, h5⟩ := h
  refine ⟨p, v, h1, h2.frm hF (by omega) (fun j hj e => ?_), h3.frm hF (by omega), h4.trans hF (fun j hj e => by omega), Nat.lt_of_lt_of_le h5 hF.size⟩
  have := (h2.row hj).1
  rcases hS with hS | hS
  · omega
  · exact hS (by rw [← e]; exact (h1 j).2 (.inr (.inr (.inr hj))))

theorem take_snoc {α : Type} [Inhabited α] {l : List α} {k : Nat} (h : k < l.length) : l.take (k + 1) = l.take k ++ [l[k]] := by
  rw [List.take_succ_eq_append_getElem h]
theorem keptM_snoc (s : ByteArray) (l : List Ch) (c : Ch) : keptM s (l ++ [c]) = keptM s l ++ if isM c.r = true then [] else cut s c := by
  unfold keptM
  rw [List.filter_append, List.flatMap_append]
  congr 1
  rcases h : isM c.r with _ | _
  · simp [h]
  · simp [h]
theorem cntM_snoc (l : List Ch) (c : Ch) : cntM (l ++ [c]) = cntM l + if isM c.r = true then 1 else 0 := by
  unfold cntM
  rw [List.filter_append, List.length_append]
  congr 1
  rcases h : isM c.r with _ | _
  · simp [h]
  · simp [h]

theorem cut_len {s : ByteArray} {c : Ch} (h : c.b + c.n ≤ s.size) : (cut s c).length = c.n := by
  have : (s.extract c.b (c.b + c.n)).size = c.n := by rw [ByteArray.size_extract]; omega
  unfold cut
  exact this
theorem all_len (s : ByteArray) : ∀ p, ((chA s p).flatMap (cut s)).length ≤ s.size - p := fun p => by
  refine chA_ind (s := s) (P := fun p => ((chA s p).flatMap (cut s)).length ≤ s.size - p) (fun p h => ?_) (fun p h ih => ?_) _ p (Nat.le_refl _)
  · rw [chA_end h]; simp
  · have h1 := dec_le h
    rw [chA_go h, List.flatMap_cons, List.length_append, cut_len (by exact h1)]
    show (Utf8.decode s p).2 + _ ≤ _
    omega
theorem fm_filter_len {α β : Type} (f : α → Bool) (g : α → List β) : ∀ l : List α, ((l.filter f).flatMap g).length ≤ (l.flatMap g).length
  | [] => Nat.le_refl _
  | a :: l => by
    have ih := fm_filter_len f g l
    rw [List.filter_cons]
    split
    · rw [List.flatMap_cons, List.flatMap_cons, List.length_append, List.length_append]; omega
    · rw [List.flatMap_cons, List.length_append]; omega
theorem fm_take_len {α β : Type} (g : α → List β) : ∀ (l : List α) (k : Nat), ((l.take k).flatMap g).length ≤ (l.flatMap g).length
  | [], k => by simp
  | a :: l, 0 => by simp
  | a :: l, k + 1 => by
    have ih := fm_take_len g l k
    rw [List.take_succ_cons, List.flatMap_cons, List.flatMap_cons, List.length_append, List.length_append]; omega
theorem keptM_len (s : ByteArray) (k : Nat) : (keptM s ((chs s).take k)).length ≤ s.size := by
  unfold keptM
  have h1 := fm_filter_len (fun c : Ch => !isM c.r) (cut s) ((chs s).take k)
  have h2 := fm_take_len (cut s) (chs s) k
  have h3 := all_len s 0
  unfold chs at h1 h2 ⊢
  omega

theorem results_tt {P : Program} {fn : Func} {u1 u2 : Tmp} (h : fn.results = #[.tmp u1, .tmp u2]) (tmps : Array Value) (w : World) : (results fn tmps).run P w = .ok (.tuple #[tmps.getD u1 undef, tmps.getD u2 undef]) w := by simp [results, h]

set_option maxRecDepth 100000 in
set_option maxHeartbeats 4000000 in
theorem Strip_ok {w : World} {s : ByteArray} (hT : Lib.Utf8Tabs 0 1 w) (h2 : 2 ≤ w.heap.size) (hs : s.size ≤ 70368744177664) :
    Calls Tryd.prog 20 #[.string s] w fun r w' => r = .returned (.tuple #[.string (txt (stripL s)), .int .i64 (cntM (chs s))]) ∧ Aft w w' := by
  refine (callsIn_wide (n := 5)).1 ?_
  refine callsIn_of_wp_marks Tryd.func20 rfl trivial ?_ rfl
  simp only [Tryd.ntmps20, List.size_toArray, List.length_cons, List.length_nil, Nat.reduceAdd, Nat.reduceSub, Array.replicate_succ, Array.replicate_zero, List.push_toArray, List.append_toArray, List.nil_append, List.cons_append]
  refine wpIn_wide.2 ?_
  go_upto_region 3 with (fail)
  obtain ⟨W0, hW0⟩ : ∃ W0, ((w.alloc (.cells #[.string s] 9)).alloc (.cells #[.pointer none, .slice none 0 0] 73)).alloc (.cells #[.int .i64 0] 3) = W0 := ⟨_, rfl⟩
  have a0 : Aft w W0 := by rw [← hW0]; exact (((Aft.refl w).alloc _).alloc _).alloc _
  have BT : Blk W0 w.heap.size 9 #[.string s] := by rw [← hW0]; exact ((Blk.new w 9 #[.string s]).alloc _).alloc _
  have BB : Blk W0 (w.heap.size + 1) 73 #[.pointer none, .slice none 0 0] := by
    rw [← hW0]
    have := Blk.new (w.alloc (.cells #[.string s] 9)) 73 #[.pointer none, .slice none 0 0]
    rw [World.size_alloc] at this
    exact this.alloc _
  have BN : Blk W0 (w.heap.size + 2) 3 #[.int .i64 0] := by
    rw [← hW0]
    have := Blk.new ((w.alloc (.cells #[.string s] 9)).alloc (.cells #[.pointer none, .slice none 0 0] 73)) 3 #[.int .i64 0]
    rw [World.size_alloc, World.size_alloc] at this
    exact this
  rw [hW0]
  have hbs : W0.heap.size = w.heap.size + 3 := by rw [← hW0]; simp
  clear hW0
  obtain ⟨x0, xf, xl⟩ := BT.c1
  go_wp2_with (go_at_call 50; refine Spots_ok.mono ?_; rintro r1 w1 ⟨rfl, BS, b1⟩)
  have HT1 := tabs_aft hT (a0.trans b1)
  have hs1 : w.heap.size + 3 < w1.heap.size := by have := BS.lt; omega
  rw [hbs] at BS
  have BT1 := BT.aft b1
  have BB1 := BB.aft b1
  have BN1 := BN.aft b1
  have a1 := a0.trans b1
  clear x0 xf xl BT BB BN a0 b1 hbs hT
  refine wpIn_wide.1 (wpIn_rangeFunc_round (n := 5) (F := Fence.wide) rfl (by omega) (gf := 68) (lb := #[.pointer (some ⟨w.heap.size + 3, 0, none⟩)]) rfl trivial (enters_of Tryd.func68 (by kernel_rfl) rfl)
    (encs := fun x : Nat × (Nat → Prop) × Int => encS ((chs s).getD x.1 default) x.2.2) (fun _ => rfl)
    (fun x W => StripAt w1 (w.heap.size + 1) (w.heap.size + 1 + 1) s x.1 x.2.1 W ∧ x.1 < (chs s).length)
    (fun x W W' => x.2.1 (w1.heap.size + 1) ∧ ∃ S', StripAt w1 (w.heap.size + 1) (w.heap.size + 1 + 1) s (x.1 + 1) S' W' ∧ Frm x.2.1 W W' ∧ ∀ j, S' j → x.2.1 j ∨ W.heap.size ≤ j)
    (fun W => ∃ S, StripAt w1 (w.heap.size + 1) (w.heap.size + 1 + 1) s (chs s).length S W)
    ?round ?stay ?call ?fin ?done)
  case stay =>
    rintro x W Wa Wb ⟨h1, S', h2, h3, h4⟩ hF
    exact ⟨h1, S', h2.frm (by omega) (by omega) (Nat.le_refl _) (.inl rfl) hF, h3.trans hF (fun j hj e => by rw [e]; exact h1), h4⟩
  case fin =>
    rintro Wa Wb ⟨S, h⟩ hF
    exact ⟨S, h.frm (by omega) (by omega) (Nat.le_refl _) (.inl rfl) hF⟩
  case call =>
    intro W1 hF1 hW1 Rdy hsz hst hR1 hY
    have hY' : ∀ k S W (hk : k < (chs s).length) e, (StripAt w1 (w.heap.size + 1) (w.heap.size + 1 + 1) s k S W ∧ Rdy W) → YieldAt Fence.wide (5 - 1 - 1) Tryd.prog (w1.heap.size + 1) (encS ((chs s)[k]) e) W fun e W' =>
      (e = .returned (.bool true) ∧ ∃ S', (StripAt w1 (w.heap.size + 1) (w.heap.size + 1 + 1) s (k + 1) S' W' ∧ Rdy W') ∧ Frm S W W' ∧ ∀ j, S' j → S j ∨ W.heap.size ≤ j) ∨ (e = .returned (.bool false) ∧ False) := by
      intro k S W hk e h
      have e1 : encS ((chs s)[k]) e = encS ((chs s).getD k default) e := by rw [List.getD_eq_getElem?_getD, List.getElem?_eq_getElem hk]; rfl
      rw [e1]
      obtain ⟨fn, tmps, asg, bd, hy, hRo⟩ := hY (k, S, e) W ⟨h.1, hk⟩ h.2
      refine ⟨fn, tmps, asg, bd, hy, hRo.mono fun e w' h => ?_⟩
      obtain ⟨h1, ⟨_, S', h2, h3, h4⟩, h5⟩ := h
      exact .inl ⟨h1, S', ⟨h2, h5⟩, h3, h4⟩
    have T : Tells W1.heap.size (fun k S W => StripAt w1 (w.heap.size + 1) (w.heap.size + 1 + 1) s k S W ∧ Rdy W) := by
      refine ⟨?_, ?_⟩
      · rintro k S W ⟨⟨p, v, h1, h2, h3, h4, h5⟩, _⟩ j hj
        rcases (h1 j).1 hj with e | e | e | e
        · rw [e]; exact h2.blk.lt
        · rw [e]; exact h3.lt
        · omega
        · exact (h2.row e).2
      · rintro k S W W' i hi hS ⟨h, hr⟩ hF
        have h5 : w1.heap.size + 1 < W.heap.size := by obtain ⟨_, _, _, _, _, _, h5⟩ := h; exact h5
        exact ⟨h.frm (by omega) (by omega) (by omega) (.inr hS) hF, hst _ _ hr (Two.of_frm hF h5 (by omega) (by omega))⟩
    have I0 : StripAt w1 (w.heap.size + 1) (w.heap.size + 1 + 1) s 0 (fun j => j = w.heap.size + 1 ∨ j = w.heap.size + 1 + 1 ∨ j = w1.heap.size + 1 ∨ (Value.slice none 0 0).ownBlock = some j) W1 :=
      ⟨.pointer none, .slice none 0 0, fun _ => Iff.rfl, ⟨BB1.frm hF1 id, rfl, rfl, .inl rfl, World.ownsRow_nil _ _ _ _, by simp [Value.ownBlock], fun _ => rfl, by kernel_rfl⟩, BN1.frm hF1 id, hF1.mono (fun _ _ e => e.elim), hW1⟩
    have := iter_spots (BS.frm hF1 id) (tabs_frm HT1 hF1 id id) T (Jx := fun _ => False) ⟨I0, hR1⟩ (fun j hj => by
      rcases hj with e | e | e | e
      · omega
      · omega
      · omega
      · simp [Value.ownBlock] at e) (by omega) (d := 5 - 1) (by omega) hY'
    refine this.mono ?_
    rintro e W2 ⟨hv, (⟨S, h1, h2⟩ | h)⟩
    · exact ⟨hv, ⟨S, h1⟩, h2⟩
    · exact h.elim
  case round =>
    rintro ⟨k, S, e⟩ W K hW ⟨hA, hkl⟩ hK
    obtain ⟨p, v, hS, hB, hN, hF, hsz⟩ := hA
    simp only at hS hB hN hkl ⊢
    have hkm := keptM_snoc s ((chs s).take k) ((chs s).getD k default)
    have hcm := cntM_snoc ((chs s).take k) ((chs s).getD k default)
    have htk : (chs s).take (k + 1) = (chs s).take k ++ [(chs s).getD k default] := by
      rw [List.take_succ_eq_append_getElem hkl, List.getD_eq_getElem?_getD, List.getElem?_eq_getElem hkl]; rfl
    rw [← htk] at hkm hcm
    have hmem : (chs s).getD k default ∈ chs s := by rw [List.getD_eq_getElem?_getD, List.getElem?_eq_getElem hkl]; exact List.getElem_mem hkl
    have hcp := chA_mem s 0 _ hmem
    have hcl := cntM_le ((chs s).take k)
    have hcl2 := chs_len s
    have hlt : ((chs s).take k).length = k := by rw [List.length_take]; omega
    rw [hlt] at hcl
    obtain ⟨c, hc⟩ : ∃ c, (chs s).getD k default = c := ⟨_, rfl⟩
    rw [hc] at hkm hcm hcp ⊢
    obtain ⟨r, b, n⟩ := c
    simp only at hkm hcm hcp
    obtain ⟨-, hb1, -, -, hn1, hbn⟩ := hcp
    have hLl := keptM_len s k
    obtain ⟨L, hL⟩ : ∃ L, keptM s ((chs s).take k) = L := ⟨_, rfl⟩
    rw [hL] at hLl
    obtain ⟨M, hM⟩ : ∃ M, cntM ((chs s).take k) = M := ⟨_, rfl⟩
    rw [hL] at hB hkm
    rw [hM] at hN hcm hcl
    have HKM := Lib.hid hkm
    have HCM := Lib.hid hcm
    clear hkm hcm htk hmem hc hL hM hlt
    have hBT := BT1.frm hF (by omega)
    have hTt := tabs_frm HT1 hF (by omega) (by omega)
    simp only [encS, List.zip_toArray, List.zip_cons_cons, List.zip_nil_right, List.foldl_toArray, List.foldl_cons, List.foldl_nil, List.setIfInBounds_toArray, List.set_cons_zero, List.set_cons_succ]
    gi_wp2
    have FA := (Frm.refl (fun _ => False) W).alloc (.cells #[.int .i64 b, .int .i64 n, .int .i32 r, .int .i64 e] 96)
    refine hK _ _ (Two.of_frm (F := fun _ => False) FA hW id id) ?_
    intro W2 hF2
    have F2 := (FA.mono (F' := fun i => i = w1.heap.size + 1) (fun _ _ e => e.elim)).trans hF2 (fun _ _ e => e)
    have S2 := (Blk.new W 96 #[.int .i64 b, .int .i64 n, .int .i32 r, .int .i64 e]).frm hF2 (by omega)
    have B2 := hB.frm F2 (by omega) (fun i hi e => by have := (hB.row hi).1; omega)
    have N2 := hN.frm F2 (by omega)
    have T2 := hBT.frm F2 (by omega)
    clear hK FA hB hN hBT
    obtain ⟨x0, x1, x2, x3, xf, xl⟩ := S2.c4
    obtain ⟨n0, nf, nl⟩ := N2.c1
    obtain ⟨t0, tf, tl⟩ := T2.c1
    have hIs := fun (W : World) => Is_ok W r
    obtain ⟨m, hm⟩ : ∃ m, isM r = m := ⟨_, rfl⟩
    rw [hm] at hIs
    have HMM := Lib.hid hm
    clear hm
    gi_wp2
    refine ⟨trivial, (CallsIn.inRound (w1.heap.size + 1) (callsIn_wide.2 (hIs _))).mono ?_⟩
    rintro r5 w5 ⟨rfl, rfl⟩
    rcases m with _ | _
    · have hsz3 : (s.extract b (b + n)).size = n := by rw [ByteArray.size_extract]; omega
      gi_wp2
      refine ⟨trivial, (CallsIn.inRound (w1.heap.size + 1) (callsIn_wide.2 (WriteString_ok B2 (by rw [hsz3]; omega) (by have := F2.size; omega)))).mono ?_⟩
      rintro r6 w6 ⟨rfl, v', B6, F6, hv'⟩
      have B6 : Bld w6 (w1.heap.size + 2) (w.heap.size + 1) 0 73 #[.pointer (some ⟨w.heap.size + 1, 0, none⟩), v'] (.pointer (some ⟨w.heap.size + 1, 0, none⟩)) v' (L ++ cut s ⟨r, b, n⟩) := B6
      gi_wp2
      have hsz2 : W.heap.size < W2.heap.size := S2.lt
      have hsW : Frm S W w6 := (F2.mono (F' := S) (fun i _ e => (hS i).2 (.inr (.inr (.inl e))))).trans F6 (fun i _ e => by
        rcases e with e | e
        · exact (hS i).2 (.inl e)
        · exact (hS i).2 (.inr (.inr (.inr e))))
      have hnr : ∀ i, v.ownBlock = some i → w1.heap.size + 2 ≤ i := fun i e => (B2.row e).1
      refine ⟨Two.of_frm F6 (by have := F2.size; omega) (fun e => ?_) (fun e => ?_), (hS _).2 (.inr (.inr (.inl rfl))), (fun j => j = w.heap.size + 1 ∨ j = w.heap.size + 1 + 1 ∨ j = w1.heap.size + 1 ∨ v'.ownBlock = some j), ⟨.pointer (some ⟨w.heap.size + 1, 0, none⟩), v', fun _ => Iff.rfl, ?_, ?_, ?_, ?_⟩, hsW, ?_⟩
      · rcases e with e | e
        · omega
        · have := hnr _ e; omega
      · rcases e with e | e
        · omega
        · have := hnr _ e; omega
      · rw [HKM.out, HMM.out, if_neg (by simp)]; exact B6
      · rw [HCM.out, HMM.out, if_neg (by simp)]
        exact N2.frm F6 (fun e => by
          rcases e with e | e
          · omega
          · have := hnr _ e; omega)
      · refine hF.trans hsW (fun i hi e => ?_)
        rcases (hS i).1 e with e | e | e | e
        · exact .inl e
        · exact .inr e
        · omega
        · have := hnr _ e; omega
      · have := F6.size; omega
      · intro i e
        rcases e with e | e | e | e
        · exact .inl ((hS i).2 (.inl e))
        · exact .inl ((hS i).2 (.inr (.inl e)))
        · exact .inl ((hS i).2 (.inr (.inr (.inl e))))
        · rcases hv' with h | h
          · rw [h] at e; exact .inl ((hS i).2 (.inr (.inr (.inr e))))
          · rw [h] at e; injection e with e; right; omega
    · gi_wp2
      have hsz2 : W.heap.size < W2.heap.size := S2.lt
      have F6 := (Frm.refl (fun j => j = w.heap.size + 1 + 1) W2).set (b := w.heap.size + 1 + 1) (j := 0) rfl (.int .i64 ((M : Int) + 1))
      have hsW : Frm S W (W2.setCell ⟨w.heap.size + 1 + 1, 0, none⟩ (.int .i64 ((M : Int) + 1))) := (F2.mono (F' := S) (fun i _ e => (hS i).2 (.inr (.inr (.inl e))))).trans F6 (fun i _ e => (hS i).2 (.inr (.inl e)))
      have hnr : ∀ i, v.ownBlock = some i → w1.heap.size + 2 ≤ i := fun i e => (B2.row e).1
      refine ⟨Two.of_frm F6 (by have := F2.size; omega) (by omega) (by omega), (hS _).2 (.inr (.inr (.inl rfl))), S, ⟨p, v, hS, ?_, ?_, ?_, ?_⟩, hsW, fun i e => .inl e⟩
      · rw [HKM.out, HMM.out, if_pos rfl, List.append_nil]
        exact B2.frm F6 (by omega) (fun i e e2 => by have := hnr _ e; omega)
      · rw [HCM.out, HMM.out, if_pos rfl]
        simpa using N2.set_ 0 (.int .i64 ((M : Int) + 1))
      · refine hF.trans hsW (fun i hi e => ?_)
        rcases (hS i).1 e with e | e | e | e
        · exact .inl e
        · exact .inr e
        · omega
        · have := hnr _ e; omega
      · have := F6.size; omega
  case done =>
    rintro W ⟨S, p, v, hS, hB, hN, hF, hsz⟩ hK
    rw [List.take_length] at hB hN
    have aW : Aft w W := Below.trans a1 (Frm.below hF (by omega) (fun i hi e => by omega))
    have hbr : ∀ i, v.ownBlock = some i → w1.heap.size + 2 ≤ i ∧ i < W.heap.size := fun i hi => hB.row hi
    have hcall : ∀ W', Aft W W' → Calls Tryd.prog 43 #[.pointer (some ⟨w.heap.size + 1, 0, none⟩)] W' fun e w' => e = .returned (.string (txt (stripL s))) ∧ Frm (fun k => v.ownBlock = some k) W' w' := fun W' hA =>
      (String_ok (hB.frm (Frm.of_below (F := fun _ => False) hA) id (fun _ _ => id)).r).mono fun r w' h => ⟨h.1, h.2.2⟩
    have HC := Lib.hid hcall
    have HN := Lib.hid hN
    clear hcall hB hN
    go_wp2_with (fail)
    refine wpIn_wide.1 (wpIn_region_wvars (F := fun k => v.ownBlock = some k) (d := 0) (c := 0) (av := []) (vars := []) (K := [(1, 0), (0, 0), (0, 0), (0, 0)]) (U := [some 0, none, some 0, none]) (E := [])
      (vs := [.inr (0, id), .inl (.int .i64 (cntM (chs s))), .inr (0, id), .inl (.int .i64 (cntM (chs s)))])
      (R := fun r => r = .string (txt (stripL s))) (T := fun _ _ => True) (fun j hj => (hbr j hj).2) (by kernel_rfl) (by kernel_rfl) rfl rfl (by kernel_rfl) (by kernel_rfl) ?_ ?_)
    · simp only [List.map_cons, List.map_nil, valV, id, putAll, Act.put, List.setIfInBounds_toArray, List.set_cons_zero, List.set_cons_succ]
      refine ⟨?_, ?_, ?_, ?_, trivial⟩
      · refine ⟨fun _ => rfl, fun ρ W' hA => ⟨43, #[.pointer (some ⟨w.heap.size + 1, 0, none⟩)], ?_, ?_⟩⟩
        · go_simp
        · refine (HC.out W' hA).mono ?_
          rintro r7 w7 ⟨rfl, hF7⟩
          exact ⟨_, rfl, rfl, hF7, fun _ _ => trivial⟩
      · intro ρ W' hF' _
        obtain ⟨n0, -, -⟩ := (HN.out.frm hF' (fun e => by have := hbr _ e; omega)).c1
        simp only [valV]
        go_simp
      · intro ρ W' hA hu
        have e : ρ 0 = .string (txt (stripL s)) := hu rfl
        simp only [valV, id, e]
        go_simp
      · intro ρ W' hA _
        simp only [valV]
        go_simp
    intro ρ W8 hF8 hR8 _ _ _
    have hR8 : ρ 0 = .string (txt (stripL s)) := hR8
    simp only [List.map_cons, List.map_nil, valV, id, putAll, Act.put, List.setIfInBounds_toArray, List.set_cons_zero, List.set_cons_succ, hR8]
    have hd : W8.heap[w1.heap.size]? = some (.deferred (some [])) := (hF8.block _ (by omega) (fun e => by have := hbr _ e; omega)).trans hK
    go_wp2
    have FF := (Frm.refl (fun k => k = w1.heap.size) W8).put (k := w1.heap.size) rfl (.deferred none)
    refine ⟨by simp, .inl ⟨_, _, rfl, run_takeDeferred hd, ?_⟩⟩
    refine ⟨_, results_tt (u1 := 2) (u2 := 3) rfl _ _, rfl, ?_⟩
    have a8 : Aft w W8 := Below.trans aW (hF8.below (by have := aW.le; omega) (fun k hk e => by have := hbr _ e; omega))
    exact Below.trans a8 (FF.below (by have := a8.le; omega) (fun k hk e => by omega))
end Go.Proofs.YtaekdnfpgkfjkaaDoor
