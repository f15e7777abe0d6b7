/- Level runs: what the iterator tells, round by round. -/
import Derived.Test.YtpdackbcnbhppaaT1
import Derived.Test.YtpdackbcnbhppaaRng
import Derived.Test.YtpdackbcnbhppaaMidIn
import Derived.RangeFuncLeaves
import Derived.TacticsInMore
import Derived.LoopNIn
import Derived.LoopIn
import Derived.Sort.LoopGhostIn
import Derived.BigRegionIn
namespace Go.Proofs.Ytpdackbcnbhppaa
open Go.RowKit
attribute [local go_sem] Oper.semAt_some

theorem spanN_pos {lv t : List Int} (h : 0 < t.length) : 1 ≤ spanN lv (lvAt lv (t.getD 0 0)) t := by
  cases t with
  | nil => simp at h
  | cons a t => simp [spanN]
theorem grp_pos {lv t : List Int} (h : 0 < t.length) : grp lv t = t.take (spanN lv (lvAt lv (t.getD 0 0)) t) :: grp lv (t.drop (spanN lv (lvAt lv (t.getD 0 0)) t)) := by
  cases t with
  | nil => simp at h
  | cons a t =>
    rw [grp]
    simp [spanN]
theorem grp_nil (lv : List Int) : grp lv [] = [] := by rw [grp]

structure Rn where
  f : Nat
  t : Nat
  v : Int
deriving Inhabited
def Rn.cells (r : Rn) : List Value := [.int .i64 r.f, .int .i64 r.t, .int .i8 r.v]
def Rn.encs (r : Rn) : Array Value := #[.agg #[.int .i64 r.f, .int .i64 r.t, .int .i8 r.v]]
def toRn (lv g : List Int) : Rn := ⟨(g.getD 0 0).toNat, (g.getD (g.length - 1) 0).toNat + 1, lvAt lv (g.getD 0 0)⟩
def runL (lv ks : List Int) : List Rn := (grp lv ks).map (toRn lv)

theorem keptT_mem {l : List Int} : ∀ {k : Nat} {x : Int}, x ∈ keptT l k ↔ ∃ a : Nat, x = a ∧ a < k ∧ remC (l.getD a 0) = false
  | 0, x => by simp [keptT]
  | k + 1, x => by
    unfold keptT
    have ih := @keptT_mem l k x
    by_cases h : remC (l.getD k 0) = true
    · rw [if_pos h, ih]
      constructor
      · rintro ⟨a, e, h1, h2⟩; exact ⟨a, e, by omega, h2⟩
      · rintro ⟨a, e, h1, h2⟩
        refine ⟨a, e, ?_, h2⟩
        have : a ≠ k := by rintro rfl; rw [h] at h2; cases h2
        omega
    · rw [if_neg h, List.mem_append, ih]
      constructor
      · rintro (⟨a, e, h1, h2⟩ | h1)
        · exact ⟨a, e, by omega, h2⟩
        · simp at h1; exact ⟨k, h1, by omega, by simpa using h⟩
      · rintro ⟨a, e, h1, h2⟩
        by_cases hk : a = k
        · right; simp [e, hk]
        · left; exact ⟨a, e, by omega, h2⟩
theorem keptL_in {l : List Int} {k : Nat} (hk : k < (keptL l).length) : ∃ a : Nat, (keptL l).getD k 0 = a ∧ a < l.length ∧ remC (l.getD a 0) = false := by
  refine keptT_mem.1 ?_
  rw [List.getD_eq_getElem?_getD, List.getElem?_eq_getElem hk]
  exact List.getElem_mem hk
theorem RdInts.drop {w : World} {B : Nat} {k : IntKind} {A : Option Addr} {l : List Int} (h : RdInts w B k A l) {b off : Nat} (hA : A = some ⟨b, off, none⟩) (n : Nat) : RdInts w B k (some ⟨b, off + n, none⟩) (l.drop n) := by
  refine ⟨by simp, fun h0 => ?_⟩
  obtain ⟨b', off', e, h1, h2, hc⟩ := h.2 (by simp at h0; omega)
  rw [hA] at e
  injection e with e
  injection e with e1 e2 e3
  subst e1 e2
  refine ⟨b, off + n, rfl, h1, h2, fun j u hj => ?_⟩
  rw [Nat.add_assoc]
  exact hc (n + j) u (by rw [List.map_drop, List.getElem?_drop] at hj; exact hj)

set_option maxRecDepth 100000 in
set_option maxHeartbeats 1000000 in
theorem Runs_ok {w : World} {A A2 : Option Addr} {n c n2 c2 : Nat} :
    Calls Try.prog 49 #[.slice A n c, .slice A2 n2 c2] w fun r w' => r = .returned (.func (.func 78) #[] #[.pointer (some ⟨w.heap.size, 0, none⟩), .pointer (some ⟨w.heap.size + 1, 0, none⟩)]) ∧
      Blk w' w.heap.size 24 #[.slice A n c] ∧ Blk w' (w.heap.size + 1) 25 #[.slice A2 n2 c2] ∧ Below w.heap.size w w' := by
  go_enter Try.func49, Try.ntmps49
  go_wp2
  go_ret
  have h2 := Blk.new (w.alloc (.cells #[.slice A n c] 24)) 25 #[.slice A2 n2 c2]
  rw [World.size_alloc] at h2
  exact ⟨rfl, (Blk.new w 24 _).alloc _, h2, ((Below.refl _ w).alloc (Nat.le_refl _) _).alloc (by simp) _⟩

theorem Kept_n {w : World} {B : Nat} {A : Option Addr} {c n : Nat} {l : List Int} (hn : n = l.length) (h : RdInts w B .u8 A l) (hl : n ≤ 8388608) :
    Calls Try.prog 48 #[.slice A n c] w fun r w' => ∃ v, r = .returned v ∧ Ints w' w.heap.size 3 .i64 v (keptL l) ∧ Below w.heap.size w w' := by
  subst hn; exact Kept_ok h hl

theorem Ints.addr {w : World} {B e n c : Nat} {k : IntKind} {A : Option Addr} {l : List Int} (h : Ints w B e k (.slice A n c) l) {b off : Nat} (hA : A = some ⟨b, off, none⟩) : B ≤ b ∧ b < w.heap.size := h.lt b (by rw [hA]; rfl)

/-- What may be told of the callee's state: it stands as it stood while nothing that it may write turns. -/
structure Tells (J : Nat → (Nat → Prop) → World → Prop) : Prop where
  lt : ∀ k S W, J k S W → ∀ j, S j → j < W.heap.size
  frm : ∀ k S W W', J k S W → Frm (fun _ => False) W W' → J k S W'

set_option maxRecDepth 100000 in
set_option maxHeartbeats 2000000 in
theorem iter_ok {W1 : World} {b1 b2 yb n n2 c c2 : Nat} {B B2 : Nat} {A A2 : Option Addr} {cl lv ks : List Int} (hn : n = cl.length) (hn2 : n2 = lv.length) (he : n = n2) (hks : ks = keptL cl) (h1 : Blk W1 b1 24 #[.slice A n c]) (h2 : Blk W1 b2 25 #[.slice A2 n2 c2])
    (hr : RdInts W1 B .u8 A cl) (hr2 : RdInts W1 B2 .i8 A2 lv) (hl : n ≤ 8388608)
    {J : Nat → (Nat → Prop) → World → Prop} (T : Tells J) {Jx : World → Prop} {S0 : Nat → Prop} (h0 : J 0 S0 W1) {d : Nat} (hd : 1 ≤ d)
    (hY : ∀ k S W (hk : k < (runL lv ks).length), J k S W → YieldAt Fence.wide (d - 1) Try.prog yb ((runL lv ks)[k]).encs W fun e W' =>
      (e = .returned (.bool true) ∧ ∃ S', J (k + 1) S' W' ∧ Frm S W W' ∧ ∀ j, S' j → S j ∨ W.heap.size ≤ j) ∨ (e = .returned (.bool false) ∧ Jx W')) :
    CallsIn Fence.wide d Try.prog 78 #[.func (.yield yb) #[] #[], .pointer (some ⟨b1, 0, none⟩), .pointer (some ⟨b2, 0, none⟩)] W1 fun e W' => (∃ v, e = .returned v) ∧ ((∃ S, J (runL lv ks).length S W') ∨ Jx W') := by
  subst he
  have HN := Lib.hid hn
  have HKS := Lib.hid hks
  have HN2 := Lib.hid hn2
  have b0 : Below W1.heap.size W1 W1 := Below.refl _ _
  clear hn hn2 hks
  obtain ⟨x0, xf, xl⟩ := h1.c1
  obtain ⟨y0, yf, yl⟩ := h2.c1
  refine callsIn_of_wp Try.func78 rfl trivial ?_ rfl
  simp only [Try.ntmps78, List.size_toArray, List.length_cons, List.length_nil, Nat.reduceAdd, Nat.reduceSub, Array.replicate_succ, Array.replicate_zero, List.push_toArray, List.append_toArray, List.nil_append, List.cons_append]
  have hE : ((n : Int) != (n : Int)) = false := bne_self_eq_false _
  refine wpIn_wide.2 ?_
  go_wp2_with (first
    | (go_at_call 79; refine (CloneL_ok HN2.out hr2 (by omega)).mono ?_; rintro r1 w1 ⟨ov, rfl, IO, bO⟩; obtain ⟨oA, oc, rfl, ho1, ho2, hoR⟩ := IO.val; obtain ⟨z0, zf, zl⟩ := (h1.below bO xl).c1)
    | (go_at_call 48
       have F1 := (Frm.of_below (F := fun _ => False) bO).alloc (.cells #[.slice oA lv.length oc] 25)
       refine (Kept_n (l := cl) (B := B) HN.out (hr.frmA F1 (fun _ _ _ => id)) hl).mono ?_; rintro r2 w2 ⟨kv, rfl, IK, bK⟩; rw [← HKS.out] at IK))
  have F2 : Frm (fun _ => False) W1 w2 := F1.trans (Frm.of_below bK) (fun _ _ h => h)
  have hsz : w1.heap.size < w2.heap.size := by have := bK.size; simp at this; omega
  have BO : Blk w2 w1.heap.size 25 #[.slice oA lv.length oc] := (Blk.new w1 25 _).below bK (by simp)
  have RO : RdInts w2 w1.heap.size .i8 oA lv := (hoR.alloc _).below bK (.inl (by simp))
  have HB := Lib.hid bO.size
  obtain ⟨kA, kc, rfl, hk1, hk2, RK⟩ := IK.val
  have hkb : ∀ b off, kA = some ⟨b, off, none⟩ → w1.heap.size < b ∧ b < w2.heap.size := fun b off e => by have := IK.addr e; simp at this; omega
  have hob : ∀ b off, oA = some ⟨b, off, none⟩ → W1.heap.size ≤ b ∧ b < w1.heap.size := fun b off e => IO.addr e
  have hK : ∀ k, k < ks.length → ∃ a : Nat, ks.getD k 0 = a ∧ a < n := fun k hk => by
    rw [HKS.out] at hk ⊢
    obtain ⟨a, e, h, _⟩ := keptL_in hk
    exact ⟨a, e, by have := HN.out; omega⟩
  have hklen : ks.length ≤ n := by rw [HKS.out]; have := keptT_length cl cl.length; have := HN.out; unfold keptL; omega
  have hJ2 : J 0 S0 w2 := T.frm _ _ _ _ h0 F2
  have hS2 : ∀ j, S0 j → j < W1.heap.size := T.lt _ _ _ h0
  clear h1 h2 hr hr2 x0 xf xl y0 yf yl z0 zf zl IO bO F1 bK hE b0 hoR IK h0 F2
  refine (wpIn_wide (n := d)).1 ?_
  gi_loopw [5] (fun kv wr => ∃ (k : Nat) (S : Nat → Prop) (t : List Int) (A' : Option Addr) (c' : Nat), kv = .slice A' t.length c' ∧ J k S wr ∧ (∃ dn, grp lv ks = dn ++ grp lv t ∧ dn.length = k) ∧ (∀ k, k < t.length → ∃ a : Nat, t.getD k 0 = a ∧ a < n) ∧ t.length ≤ n ∧
     t.length ≤ c' ∧ c' ≤ maxLen ∧ RdInts wr w2.heap.size .i64 A' t ∧ (0 < t.length → ∀ b off, A' = some ⟨b, off, none⟩ → w1.heap.size < b ∧ b < w2.heap.size) ∧ Blk wr w1.heap.size 25 #[.slice oA lv.length oc] ∧ RdInts wr w1.heap.size .i8 oA lv ∧ (∀ b, S b → b < W1.heap.size ∨ w2.heap.size ≤ b) ∧ w2.heap.size ≤ wr.heap.size) (fun kv _ => match kv with | .slice _ n _ => n | _ => 0)
  case atStart => exact ⟨0, S0, ks, kA, kc, rfl, hJ2, ⟨[], rfl, rfl⟩, hK, hklen, hk1, hk2, RK, fun _ => hkb, BO, RO, fun b hb => .inl (hS2 b hb), Nat.le_refl _⟩
  case round =>
    clear RK BO RO hk1 hk2 hkb hJ2 hK hklen
    obtain ⟨k, S, t, A', c', rfl, hJ, hdn, hK, htn, hc1, hc2, RK, hkb, BO, RO, hS, hsz2⟩ := hrel
    rcases Nat.eq_zero_or_pos t.length with h0 | hpos
    · have ht : t = [] := List.eq_nil_of_length_eq_zero h0
      subst ht
      obtain ⟨dn, hd1, rfl⟩ := hdn
      have hkl : dn.length = (runL lv ks).length := by unfold runL; rw [hd1, grp_nil]; simp
      rw [hkl] at hJ
      clear hd1 hkl
      gi_wp2
      go_end0
      exact ⟨⟨_, rfl⟩, .inl ⟨_, hJ⟩⟩
    · have hN := grp_pos (lv := lv) hpos
      have hN1 := spanN_pos (lv := lv) hpos
      have hN2 := spanN_le lv (lvAt lv (t.getD 0 0)) t
      obtain ⟨a, ha0, ha⟩ := hK 0 hpos
      obtain ⟨g, off, rfl, hgB, hgs, hc⟩ := RK.cells hpos
      have c0 := hc 0 hpos
      rw [ha0] at hN hN1 hN2 c0
      rw [Nat.add_zero] at c0
      have HA0 := Lib.hid ha0
      have hfi : firstN lv (lvAt lv (a : Int)) t = if spanN lv (lvAt lv (a : Int)) t < t.length then (spanN lv (lvAt lv (a : Int)) t : Int) else -1 := rfl
      generalize hNN : spanN lv (lvAt lv (a : Int)) t = N at *
      clear ha0
      have hNt : N ≤ t.length := hN2
      obtain ⟨e, he0, he⟩ := hK (N - 1) (by omega)
      have cN := hc (N - 1) (by omega)
      rw [he0] at cN
      have HE0 := Lib.hid he0
      obtain ⟨ob, oo, rfl, ho1, ho2, co⟩ := RO.at_ (i := a) (by have := HN2.out; omega)
      have hla : lv.getD a 0 = lvAt lv (a : Int) := rfl
      rw [hla] at co
      have hw1 : IntKind.i64.wrap ((N : Int) - 1) = ((N - 1 : Nat) : Int) := by rw [IntWalk.i64_in _ (by omega)]; omega
      have hw2 : IntKind.i64.wrap ((e : Int) + 1) = ((e + 1 : Nat) : Int) := by rw [IntWalk.i64_in _ (by omega)]; omega
      clear he0 hla
      obtain ⟨p0, pf, pl⟩ := BO.c1
      have hal : a < lv.length := by have := HN2.out; omega
      obtain ⟨dn, hd1, rfl⟩ := hdn
      have hkl : dn.length < (runL lv ks).length := by unfold runL; rw [hd1, hN]; simp
      have hen : ((runL lv ks)[dn.length]).encs = #[.agg #[.int .i64 (a : Int), .int .i64 ((e : Int) + 1), .int .i8 (lvAt lv (a : Int))]] := by
        have e1 : (runL lv ks)[dn.length] = toRn lv (t.take N) := by simp only [runL, hd1, hN]; simp
        have e2 : (t.take N).getD 0 0 = (a : Int) := by rw [← HA0.out]; simp only [List.getD_eq_getElem?_getD, List.getElem?_take]; rw [if_pos (by omega)]
        have e3 : (t.take N).getD ((t.take N).length - 1) 0 = (e : Int) := by
          rw [← HE0.out, List.length_take, Nat.min_eq_left hNt]; simp only [List.getD_eq_getElem?_getD, List.getElem?_take]; rw [if_pos (by omega)]
        rw [e1]
        unfold toRn Rn.encs
        rw [e2, e3]
        simp
      have hdn' : ∃ d', grp lv ks = d' ++ grp lv (t.drop N) ∧ d'.length = dn.length + 1 := ⟨dn ++ [t.take N], by rw [hd1, hN]; simp, by simp⟩
      have HD := Lib.hid hdn'
      have HD1 := Lib.hid hd1
      clear hd1 hdn' hc hN
      have hIR : ∀ W, W = wr.alloc (.cells #[.int .i64 a] 3) → Calls Try.prog 80 #[.slice (some ⟨g, off, none⟩) t.length c', .func (.func 81) #[] #[.pointer (some ⟨w1.heap.size, 0, none⟩), .pointer (some ⟨wr.heap.size, 0, none⟩)]] W fun r w' => r = .returned (.int .i64 (firstN lv (lvAt lv (a : Int)) t)) ∧ ∃ m, w' = W.drewN m := by
        rintro W rfl
        exact index_runs (OA := some ⟨ob, oo, none⟩) (n := lv.length) rfl rfl (RK.alloc _) (BO.alloc _) (RO.alloc _) (Blk.new _ _ _) (fun k hk => by obtain ⟨x, h1, h2⟩ := hK k hk; exact ⟨x, h1, by have := HN2.out; omega⟩) (by have := HN2.out; omega) (by omega)
      by_cases hlt : N < t.length
      · rw [if_pos hlt] at hfi
        rw [hfi] at hIR
        gi_wp2
        refine ⟨trivial, callsIn_wide.2 ((hIR _ rfl).mono ?_)⟩
        rintro r1 w3 ⟨rfl, m, rfl⟩
        have hJ3 : J dn.length S ((wr.alloc (.cells #[.int .i64 a] 3)).drewN (m + 1)) := T.frm _ _ _ _ hJ (((Frm.refl _ wr).alloc _).drewN _)
        obtain ⟨fn, tmps, assign, body, hy, hR⟩ := hY dn.length S _ hkl hJ3
        rw [hen] at hy
        clear hen
        gi_wp2
        have hR2 : RoundIn Fence.wide (d - 1) Try.prog yb fn tmps assign body ((wr.alloc (.cells #[.int .i64 a] 3)).drewN (m + 1)) (fun e W' => ∃ bb, e = .returned (.bool bb) ∧
            ((bb = true ∧ ∃ S', J (dn.length + 1) S' W' ∧ Frm S ((wr.alloc (.cells #[.int .i64 a] 3)).drewN (m + 1)) W' ∧ ∀ j, S' j → S j ∨ ((wr.alloc (.cells #[.int .i64 a] 3)).drewN (m + 1)).heap.size ≤ j) ∨ (bb = false ∧ Jx W'))) := hR.mono (fun e W' h => by
          rcases h with ⟨h1, h2⟩ | ⟨h1, h2⟩
          · exact ⟨true, h1, .inl ⟨rfl, h2⟩⟩
          · exact ⟨false, h1, .inr ⟨rfl, h2⟩⟩)
        clear hR
        refine wpIn_region_mid 13 (by kernel_rfl) (by kernel_rfl) rfl rfl ?_
        simp only [List.take_succ_cons, List.take_zero]
        repeat (refine still_plain rfl rfl ?_; intro K hK; go_wp2)
        refine wpStill_nil ?_
        intro K hK
        gi_wp2
        refine hR2.mono ?_
        rintro e3 W3 ⟨bb, rfl, hbb⟩
        gi_wp2
        simp only [List.drop_succ_cons, List.drop_zero]
        repeat (refine still_plain rfl rfl ?_; intro K hK; go_wp2)
        refine wpStill_nil ?_
        rcases hbb with ⟨rfl, S', hJ4, hF4, hS4⟩ | ⟨rfl, hx⟩
        · gi_wp2
          go_roundw
          case rel =>
            have hz : ((wr.alloc (.cells #[.int .i64 a] 3)).drewN (m + 1)).heap.size = wr.heap.size + 1 := World.size_alloc _ _
            have hbs : w1.heap.size + 1 ≤ w2.heap.size := hsz
            have hw1S : ¬ S w1.heap.size := fun h => by have := hS _ h; have := HB.out; omega
            have hgS : ¬ S g := fun h => by have := hS _ h; have := hkb hpos g off rfl; have := HB.out; omega
            have hoS : ¬ S ob := fun h => by have := hS _ h; have := hob ob oo rfl; omega
            have hld : t.length - N = (t.drop N).length := by simp
            refine ⟨dn.length + 1, S', t.drop N, some ⟨g, off + N, none⟩, c' - N, by rw [← hld], hJ4, ?_, ?_, by simp; omega, by simp; omega, by omega, ?_, ?_, ?_, ?_, ?_, ?_⟩
            · obtain ⟨d', h1, h2⟩ := HD.out; exact ⟨d', h1, h2⟩
            · intro j hj
              obtain ⟨x, h1, h2⟩ := hK (N + j) (by simp at hj; omega)
              exact ⟨x, by rw [← h1]; simp [List.getD_eq_getElem?_getD], h2⟩
            · exact (RdInts.frmA (Reads.drewN (RK.alloc _) (m + 1)) hF4 (fun b o e => by injection e with e; injection e with e1 e2; subst e1; exact hgS)).drop rfl N
            · rintro _ b o e; injection e with e; injection e with e1 e2; subst e1; exact hkb hpos g off rfl
            · exact ((BO.alloc _).drewN (m + 1)).frm hF4 hw1S
            · exact RdInts.frmA (Reads.drewN (RO.alloc _) (m + 1)) hF4 (fun b o e => by injection e with e; injection e with e1 e2; subst e1; exact hoS)
            · intro b hb
              rcases hS4 b hb with h | h
              · exact hS b h
              · right; omega
            · have := hF4.size; omega
          case measure => simp; omega
        · gi_wp2
          refine bodyPost_ret (results_none (by kernel_rfl) _ _ _) rfl ?_
          exact ⟨⟨_, rfl⟩, .inr hx⟩
      · obtain rfl : N = t.length := by omega
        rw [if_neg hlt] at hfi
        rw [hfi] at hIR
        gi_wp2
        refine ⟨trivial, callsIn_wide.2 ((hIR _ rfl).mono ?_)⟩
        rintro r1 w3 ⟨rfl, m, rfl⟩
        have hJ3 : J dn.length S ((wr.alloc (.cells #[.int .i64 a] 3)).drewN (m + 1)) := T.frm _ _ _ _ hJ (((Frm.refl _ wr).alloc _).drewN _)
        obtain ⟨fn, tmps, assign, body, hy, hR⟩ := hY dn.length S _ hkl hJ3
        rw [hen] at hy
        clear hen
        gi_wp2
        have hR2 : RoundIn Fence.wide (d - 1) Try.prog yb fn tmps assign body ((wr.alloc (.cells #[.int .i64 a] 3)).drewN (m + 1)) (fun e W' => ∃ bb, e = .returned (.bool bb) ∧
            ((bb = true ∧ ∃ S', J (dn.length + 1) S' W' ∧ Frm S ((wr.alloc (.cells #[.int .i64 a] 3)).drewN (m + 1)) W' ∧ ∀ j, S' j → S j ∨ ((wr.alloc (.cells #[.int .i64 a] 3)).drewN (m + 1)).heap.size ≤ j) ∨ (bb = false ∧ Jx W'))) := hR.mono (fun e W' h => by
          rcases h with ⟨h1, h2⟩ | ⟨h1, h2⟩
          · exact ⟨true, h1, .inl ⟨rfl, h2⟩⟩
          · exact ⟨false, h1, .inr ⟨rfl, h2⟩⟩)
        clear hR
        refine wpIn_region_mid 13 (by kernel_rfl) (by kernel_rfl) rfl rfl ?_
        simp only [List.take_succ_cons, List.take_zero]
        repeat (refine still_plain rfl rfl ?_; intro K hK; go_wp2)
        refine wpStill_nil ?_
        intro K hK
        gi_wp2
        refine hR2.mono ?_
        rintro e3 W3 ⟨bb, rfl, hbb⟩
        gi_wp2
        simp only [List.drop_succ_cons, List.drop_zero]
        repeat (refine still_plain rfl rfl ?_; intro K hK; go_wp2)
        refine wpStill_nil ?_
        rcases hbb with ⟨rfl, S', hJ4, hF4, hS4⟩ | ⟨rfl, hx⟩
        · gi_wp2
          go_roundw
          case rel =>
            have hz : ((wr.alloc (.cells #[.int .i64 a] 3)).drewN (m + 1)).heap.size = wr.heap.size + 1 := World.size_alloc _ _
            have hbs : w1.heap.size + 1 ≤ w2.heap.size := hsz
            have hw1S : ¬ S w1.heap.size := fun h => by have := hS _ h; have := HB.out; omega
            have hoS : ¬ S ob := fun h => by have := hS _ h; have := hob ob oo rfl; omega
            refine ⟨dn.length + 1, S', [], if c' = t.length then some ⟨g, off, none⟩ else some ⟨g, off + t.length, none⟩, c' - t.length, by simp, hJ4, ?_, fun k hk => by simp at hk, by simp, by simp, by omega, ⟨rfl, fun h => by simp at h⟩, fun h => by simp at h, ?_, ?_, ?_, ?_⟩
            · obtain ⟨d', h1, h2⟩ := HD.out; rw [List.drop_length] at h1; exact ⟨d', h1, h2⟩
            · exact ((BO.alloc _).drewN (m + 1)).frm hF4 hw1S
            · exact RdInts.frmA (Reads.drewN (RO.alloc _) (m + 1)) hF4 (fun b o e => by injection e with e; injection e with e1 e2; subst e1; exact hoS)
            · intro b hb
              rcases hS4 b hb with h | h
              · exact hS b h
              · right; omega
            · have := hF4.size; omega
          case measure => simp; omega
        · gi_wp2
          refine bodyPost_ret (results_none (by kernel_rfl) _ _ _) rfl ?_
          exact ⟨⟨_, rfl⟩, .inr hx⟩
end Go.Proofs.Ytpdackbcnbhppaa
