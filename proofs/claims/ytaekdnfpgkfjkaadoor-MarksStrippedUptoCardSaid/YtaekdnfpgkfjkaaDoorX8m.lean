/- What is stripped of characters has no mark, and as many characters as there are places: true, for bytes within the second form (arguments of bulk at most 1048576). -/
import Derived.Test.YtaekdnfpgkfjkaaDoorU5
import Derived.Laws.Cover4
import Derived.Test.YtaekdnfpgkfjkaaDoorN8
import Derived.Test.YtaekdnfpgkfjkaaDoorShelf
import Derived.Test.YtaekdnfpgkfjkaaDoorCards
import Derived.Test.YtaekdnfpgkfjkaaDoorTie
import Derived.WalkKit
import Derived.ProofKit
import Derived.OpenShut
import Derived.Deep.DeepHandedRow
import Derived.Deep.DeepWitnessRowRef
import Derived.Lib.LaidIn
import Derived.Lib.LaidU8T
import Derived.Test.YtaekdnfpgkfjkaaDoorRows
import Derived.ShutString
import Derived.ChangeOld
import Derived.Below
import Derived.SizedLaws
section
namespace Go.Proofs.YtaekdnfpgkfjkaaDoor
open Go.Lib

theorem enc_size {r : Nat} (h1 : r < 55296 ∨ 57344 ≤ r) (h2 : r ≤ 1114111) : (Utf8.encode (r : Int)).size = if r < 128 then 1 else if r < 2048 then 2 else if r < 65536 then 3 else 4 := by
  have hv : Utf8.valid (r : Int) = true := by simp [Utf8.valid]; omega
  unfold Utf8.encode
  simp only [hv, if_true, Int.toNat_natCast]
  split
  · rfl
  split
  · rfl
  split
  · rfl
  · rfl
theorem decN_enc {n x0 x1 x2 x3 : Nat} {v : Nat × Nat} (h : decodeN n x0 x1 x2 x3 = v) : v.2 ≤ (Utf8.encode (v.1 : Int)).size ∧ (v = (65533, 1) → v.2 < (Utf8.encode (v.1 : Int)).size) := by
  have key : ∀ r m : Nat, (r < 55296 ∨ 57344 ≤ r) → r ≤ 1114111 → m ≤ (if r < 128 then 1 else if r < 2048 then 2 else if r < 65536 then 3 else 4) → (r = 65533 → m = 1 → False) → m ≤ (Utf8.encode (r : Int)).size ∧ ((r, m) = (65533, 1) → m < (Utf8.encode (r : Int)).size) := by
    intro r m h1 h2 h3 h4
    rw [enc_size h1 h2]
    refine ⟨h3, fun e => ?_⟩
    injection e with e1 e2
    exact (h4 e1 e2).elim
  have bad : ((65533, 1) : Nat × Nat) = v → v.2 ≤ (Utf8.encode (v.1 : Int)).size ∧ (v = (65533, 1) → v.2 < (Utf8.encode (v.1 : Int)).size) := by
    intro e
    subst e
    have : (Utf8.encode ((65533 : Nat) : Int)).size = 3 := enc_size (by omega) (by omega)
    simp only
    rw [this]
    exact ⟨by omega, fun _ => by omega⟩
  unfold decodeN at h
  split at h
  · subst h; exact key _ _ (by omega) (by omega) (by rw [if_pos (by assumption)]; omega) (by omega)
  split at h
  · split at h
    · subst h; exact key _ _ (by omega) (by omega) (by rw [if_neg (by omega), if_pos (by omega)]; omega) (by omega)
    · exact bad h
  split at h
  · split at h
    · subst h; exact key _ _ (by omega) (by omega) (by rw [if_neg (by omega), if_neg (by omega), if_pos (by omega)]; omega) (by omega)
    · exact bad h
  split at h
  · split at h
    · subst h; exact key _ _ (by omega) (by omega) (by rw [if_neg (by omega), if_neg (by omega), if_neg (by omega)]; omega) (by omega)
    · exact bad h
  · exact bad h

/-- How many bytes runes make. -/
def rnZ (P : List Pc) : Nat := (P.map fun p => (Utf8.encode (p.1 : Int)).size).sum
theorem foldl_enc (ns : List Int) : ∀ s : ByteArray, (ns.foldl (fun r n => r ++ Utf8.encode n) s).size = s.size + (ns.map fun n => (Utf8.encode n).size).sum := by
  induction ns with
  | nil => intro s; simp
  | cons n ns ih =>
    intro s
    rw [List.foldl_cons, ih, ByteArray.size_append, List.map_cons, List.sum_cons]; omega
theorem runes_size (s : ByteArray) : (runesBytes (rnL s)).size = rnZ (pcs s) := by
  unfold runesBytes rnZ rnL pcs
  rw [foldl_enc, List.map_map, List.map_map]
  show 0 + _ = _
  rw [Nat.zero_add]
  rfl
/-- Pieces as they are decoded. -/
def Dec (p : Pc) : Prop := p.2.length ≤ (Utf8.encode (p.1 : Int)).size ∧ (badP p = true → p.2.length < (Utf8.encode (p.1 : Int)).size)
theorem pl_dec (l : List UInt8) : ∀ p ∈ pl l, Dec p := by
  refine pl_ind (Q := fun l => ∀ p ∈ pl l, Dec p) (fun p hp => by cases hp) (fun l h ih p hp => ?_) l.length l (Nat.le_refl _)
  rw [pl_go h] at hp
  rcases List.mem_cons.1 hp with rfl | hp
  · have h1 := decN_enc (v := dcl l) (n := l.length) (x0 := gn l 0) (x1 := gn l 1) (x2 := gn l 2) (x3 := gn l 3) rfl
    have h2 := dcl_le h
    have hl : (l.take (dcl l).2).length = (dcl l).2 := by rw [List.length_take]; omega
    unfold Dec
    simp only
    rw [hl]
    refine ⟨h1.1, fun hb => h1.2 ?_⟩
    have := badP_iff.1 hb
    simp only at this
    rw [hl] at this
    exact Prod.ext this.1 this.2
  · exact ih p hp
theorem dec_sum : ∀ P : List Pc, (∀ p ∈ P, Dec p) → (byP P).length + bdn P ≤ rnZ P
  | [], _ => by simp [byP, bdn, rnZ]
  | p :: P, h => by
    have ih := dec_sum P (fun q hq => h q (List.mem_cons_of_mem _ hq))
    have hp := h p List.mem_cons_self
    have e : rnZ (p :: P) = (Utf8.encode (p.1 : Int)).size + rnZ P := by simp [rnZ]
    rw [e, byP_cons, List.length_append]
    unfold bdn
    split
    · have := hp.2 (by assumption); omega
    · have := hp.1; omega
/-- Every byte stands for a character. -/
theorem whole_good {s : ByteArray} (h : runesBytes (rnL s) = s) : bdn (pcs s) = 0 := by
  have h1 := runes_size s
  rw [h] at h1
  have h2 := dec_sum (pcs s) (by rw [pcs_pl]; exact pl_dec _)
  have h3 : byP (pcs s) = s.data.toList := by rw [pcs_pl, pl_by]
  rw [h3] at h2
  have h4 : s.data.toList.length = s.size := by rw [Array.length_toList]; rfl
  omega

def nmP (P : List Pc) : List Pc := P.filter fun p => !isM p.1
theorem strip_by (s : ByteArray) : stripL s = byP (nmP (pcs s)) := by
  unfold stripL keptM byP nmP pcs
  rw [List.filter_map, List.flatMap_map]
  rfl
theorem cnt_P (s : ByteArray) : cntM (chs s) = ((pcs s).filter fun p => isM p.1).length := by
  unfold cntM pcs
  rw [List.filter_map, List.length_map]
  rfl
theorem bdn_filter (f : Pc → Bool) : ∀ P : List Pc, bdn P = 0 → bdn (P.filter f) = 0
  | [], _ => rfl
  | p :: P, h => by
    unfold bdn at h
    have ih := bdn_filter f P (by omega)
    rw [List.filter_cons]
    split
    · unfold bdn; omega
    · exact ih
theorem pcs_strip {s : ByteArray} (h : runesBytes (rnL s) = s) : pcs (txt (stripL s)) = nmP (pcs s) := by
  have hb := bdn_filter (fun p => !isM p.1) _ (whole_good h)
  have hok : ∀ p ∈ nmP (pcs s), OkP p := fun p hp => by
    have : p ∈ pcs s := (List.mem_filter.1 hp).1
    rw [pcs_pl] at this
    exact pl_ok _ p this
  have hr := (rejoin _ (nmP (pcs s)) (Nat.le_refl _) hok).1
  have hb2 : bdn (nmP (pcs s)) = 0 := hb
  rcases hr with hr | hr
  · rw [pcs_pl, txt_list, strip_by, hr]
  · rw [hb2] at hr; omega
/-- What is stripped has no mark, and stripped it stays so. -/
theorem strip_strip {s : ByteArray} (h : runesBytes (rnL s) = s) : stripL (txt (stripL s)) = stripL s ∧ cntM (chs (txt (stripL s))) = 0 := by
  have hp := pcs_strip h
  constructor
  · rw [strip_by (txt (stripL s)), hp, strip_by s]
    unfold nmP
    rw [List.filter_filter]
    simp
  · rw [cnt_P, hp]
    unfold nmP
    rw [List.filter_filter]
    simp
theorem pcs_len (s : ByteArray) : (pcs s).length = (chs s).length := by simp [pcs]
theorem nm_len : ∀ P : List Pc, (P.filter fun p => isM p.1).length + (nmP P).length = P.length
  | [] => rfl
  | p :: P => by
    have ih := nm_len P
    unfold nmP at *
    rw [List.filter_cons, List.filter_cons, List.length_cons]
    rcases h : isM p.1 with _ | _ <;> simp <;> omega
theorem strip_len {s : ByteArray} (h : runesBytes (rnL s) = s) : cntM (chs s) + (rnL (txt (stripL s))).length = (rnL s).length := by
  rw [rnL_len, rnL_len, ← pcs_len, ← pcs_len, pcs_strip h, cnt_P, nm_len]
theorem pl_cnt (l : List Ch) : ∀ k, k ≤ l.length → (plT l k).length + cntM (l.take k) = k
  | 0, _ => by simp [plT, cntM]
  | k + 1, h => by
    have ih := pl_cnt l k (by omega)
    have e : l.take (k + 1) = l.take k ++ [l.getD k default] := by rw [take_snoc h, getD_at default h]
    rw [e, cntM_snoc]
    have e2 : plT l (k + 1) = if isM (l.getD k default).r = true then plT l k else plT l k ++ [(k : Int)] := rfl
    rw [e2]
    split
    · omega
    · rw [List.length_append]; simp; omega
theorem places_len {s : ByteArray} (h : runesBytes (rnL s) = s) : (rnL (txt (stripL s))).length = (plT (chs s) (chs s).length).length := by
  have h1 := strip_len h
  have h2 := pl_cnt (chs s) (chs s).length (Nat.le_refl _)
  rw [List.take_length] at h2
  rw [rnL_len s] at h1
  omega
end Go.Proofs.YtaekdnfpgkfjkaaDoor
end
section
namespace Go.Proofs.YtaekdnfpgkfjkaaDoor
open Go.RowKit
attribute [local go_sem] Oper.semAt_some

set_option maxRecDepth 100000 in
set_option maxHeartbeats 1000000 in
theorem whole_ok {w : World} {s : ByteArray} (hs : s.size ≤ 1099511627776) :
    Calls Tryd.prog 25 #[.string s] w fun e w' => e = .returned (.bool (decide (runesBytes (rnL s) = s))) ∧ Aft w w' := by
  obtain ⟨cap, W', h1, h2, h3⟩ := conv_runes w hs
  have h4 : (convert 46 9 (.slice (some ⟨w.heap.size, 0, none⟩) (rnL s).length cap)).run Tryd.prog W' = .ok (.string (runesBytes (rnL s))) W' := by
    have := run_convert_runes (P := Tryd.prog) W' 46 9 21 ⟨w.heap.size, 0, none⟩ (rnL s).length cap (rnL s) (Nat.le_refl _) (by kernel_rfl) (by kernel_rfl) (by kernel_rfl) (fun j hj => by
      rw [add_lit, Nat.zero_add]
      exact h2.at_.2.2.2.2.2.2 j hj)
    rw [List.take_length] at this
    exact this
  obtain ⟨u, hu⟩ : ∃ u, runesBytes (rnL s) = u := ⟨_, rfl⟩
  rw [hu] at h4 ⊢
  have hbb := beq_bytes u s
  obtain ⟨b, hb⟩ : ∃ b, decide (u = s) = b := ⟨_, rfl⟩
  rw [hb] at hbb ⊢
  have H2 := Lib.hid h2
  obtain ⟨n, hn⟩ : ∃ n, (rnL s).length = n := ⟨_, rfl⟩
  rw [hn] at h1 h4
  clear h2 hn hu hb
  go_enter Tryd.func25, Tryd.ntmps25
  go_wp2
  go_ret
  exact ⟨rfl, h3⟩

set_option maxRecDepth 100000 in
set_option maxHeartbeats 1000000 in
theorem stripped_walk {w : World} {s : ByteArray} (hT : Lib.Utf8Tabs 0 1 w) (h2 : 2 ≤ w.heap.size) (hs : s.size ≤ 68719476736) :
    Calls Tryd.prog 8 #[.string s] w fun e w' => e = .returned (.bool true) ∧ Aft w w' := by
  have CA := awake_ok hT h2
  have CW := fun W => whole_ok (w := W) (s := s) (Nat.le_trans hs (by omega))
  have C1 : ∀ W, Aft w W → Calls Tryd.prog 20 #[.string s] W fun e w' => e = .returned (.tuple #[.string (txt (stripL s)), .int .i64 (cntM (chs s))]) ∧ Aft W w' := fun W hW => Strip_ok (tabs_aft hT hW) (by have := hW.size; omega) (by omega)
  have hul : (txt (stripL s)).size ≤ s.size := by
    rw [txt_size]
    have := keptM_len s (chs s).length
    rw [List.take_length] at this
    exact this
  have C2 : ∀ W, Aft w W → Calls Tryd.prog 20 #[.string (txt (stripL s))] W fun e w' => e = .returned (.tuple #[.string (txt (stripL (txt (stripL s)))), .int .i64 (cntM (chs (txt (stripL s))))]) ∧ Aft W w' := fun W hW => Strip_ok (tabs_aft hT hW) (by have := hW.size; omega) (by omega)
  have C3 := fun W => Places_ok (w := W) (s := s) (Nat.le_trans hs (by omega))
  obtain ⟨b, hb⟩ : ∃ b, decide (runesBytes (rnL s) = s) = b := ⟨_, rfl⟩
  rw [hb] at CW
  rcases b with _ | _
  · clear C1 C2 C3 hb
    go_enter Tryd.func8, Tryd.ntmps8
    go_wp2_with (first
      | (go_at_call 11; refine CA.mono ?_; rintro r1 w1 ⟨rfl, b1⟩)
      | (go_at_call 25; refine (CW _).mono ?_; rintro r2 w2 ⟨rfl, b2⟩))
    go_ret
    exact ⟨rfl, b1.trans b2⟩
  · have hw : runesBytes (rnL s) = s := of_decide_eq_true hb
    obtain ⟨k1, k2⟩ := strip_strip hw
    have k3 := strip_len hw
    have k4 := places_len hw
    rw [k1, k2] at C2
    obtain ⟨c1, hc1⟩ := Classical.axiomOfChoice (fun W => conv_runes W (s := s) (Nat.le_trans hs (by omega)))
    obtain ⟨d1, hd1⟩ := Classical.axiomOfChoice hc1
    obtain ⟨c2, hc2⟩ := Classical.axiomOfChoice (fun W => conv_runes W (s := txt (stripL s)) (by omega))
    obtain ⟨d2, hd2⟩ := Classical.axiomOfChoice hc2
    have e1 := fun W => (hd1 W).1
    have e2 := fun W => (hd2 W).1
    have f1 := fun W => (hd1 W).2.2
    have f2 := fun W => (hd2 W).2.2
    obtain ⟨u, hu⟩ : ∃ u, txt (stripL s) = u := ⟨_, rfl⟩
    obtain ⟨L, hL⟩ : ∃ L, plT (chs s) (chs s).length = L := ⟨_, rfl⟩
    obtain ⟨m, hm⟩ : ∃ m, cntM (chs s) = m := ⟨_, rfl⟩
    obtain ⟨n1, hn1⟩ : ∃ m, (rnL s).length = m := ⟨_, rfl⟩
    rw [hu] at C1 C2 e2 k3 k4 hul
    obtain ⟨n2, hn2⟩ : ∃ m, (rnL u).length = m := ⟨_, rfl⟩
    rw [hL] at C3 k4
    rw [hm] at C1 k3
    rw [hn1] at e1 k3
    rw [hn2] at e2 k3 k4
    have hn1z : n1 ≤ s.size := by rw [← hn1, rnL_len]; exact chs_len s
    subst k4
    have K3 := Lib.hid k3
    have hml : m + L.length ≤ 68719476736 := by omega
    have hsum : ((n1 : Int) == (m : Int) + (L.length : Int)) = true := by simp; omega
    clear hc1 hd1 hc2 hd2 hu hL hm hn1 hn2 k1 k2 hw hb k3
    go_enter Tryd.func8, Tryd.ntmps8
    go_upto_region 7 with (first
      | (go_at_call 11; refine CA.mono ?_; rintro r1 w1 ⟨rfl, b1⟩)
      | (go_at_call 25; refine (CW _).mono ?_; rintro r2 w2 ⟨rfl, b2⟩; have a2 := b1.trans b2; have C1a := C1 _ a2)
      | (go_at_call 20; first
          | (refine C1a.mono ?_; rintro r3 w3 ⟨rfl, b3⟩; have a3 := a2.trans b3; have C2a := C2 _ a3; clear C1a)
          | (refine C2a.mono ?_; rintro r4 w4 ⟨rfl, b4⟩; have a4 := a3.trans b4)))
    go_wp2_with (go_at_call 22; refine (C3 _).mono ?_; rintro r5 w5 ⟨v5, rfl, I5, b5⟩; obtain ⟨A5, cap5, rfl, hca5, hcb5, -⟩ := I5.val; clear I5)
    go_ret
    exact ⟨rfl, (((a4.trans (f2 _)).trans b5).trans (f1 _)).trans (f2 _)⟩
end Go.Proofs.YtaekdnfpgkfjkaaDoor
end
section
namespace Go.Proofs.YtaekdnfpgkfjkaaDoor
open Go.ChangeShapes Go.WideShapes Go.ChangeAt Go.RowKit Go.Lib

theorem own24 : ownKnob Tryd.prog.godebug = none := by kernel_rfl
def laid24 : List (String × DataW Unit) := [("unicode/utf8.acceptRanges", Rows.laid_unicode_utf8_acceptRanges), ("unicode/utf8.first", Rows.laid_unicode_utf8_first)]
theorem data_acc : (Rows.laid_unicode_utf8_acceptRanges : DataW Unit) = acceptData := by kernel_rfl
theorem data_first : Rows.laid_unicode_utf8_first = firstData := by kernel_rfl
theorem tabs_of_laid {W : World} (h : laidMet Tryd.prog laid24 W) : Lib.Utf8Tabs 0 1 W :=
  utf8Tabs_of_readsT (ρ := Tryd.lays197_ren) { Tryd.lays197 with } ⟨by kernel_rfl, by kernel_rfl, by kernel_rfl, by kernel_rfl, by kernel_rfl, by kernel_rfl, by kernel_rfl⟩
    (Lib.laidMet.reads h (by rw [← data_first]; exact .tail _ (.head _))) (Lib.laidMet.reads h (by rw [← data_acc]; exact .head _))
theorem size_of_tabs {W : World} (h : Lib.Utf8Tabs 0 1 W) : 2 ≤ W.heap.size := by
  have h1 := (h.2 0 (by decide)).1
  rcases Nat.lt_or_ge 1 W.heap.size with hlt | hge
  · exact hlt
  · unfold World.cell? at h1
    rw [Array.getElem?_eq_none hge] at h1
    cases h1

/-- A world for the witness. -/
noncomputable def laidWorld (os : Os) (o : Array Obj) : World :=
  let w0 := World.holding Tryd.prog os ⟨o, #[], []⟩
  let put (h : Array Obj) (g : Nat) (cs : Array Value) : Array Obj := h.modify g fun
    | .cells _ t frozen => .cells cs t frozen
    | o => o
  let h1 := put w0.heap 0 (Lib.firstTab.map fun z => Value.int .u8 z).toArray
  let h2 := put h1 1 ((List.range 16).flatMap fun i => [Value.int .u8 (Lib.accLo i), Value.int .u8 (Lib.accHi i)]).toArray
  { w0 with heap := h2 }
theorem laid_met (os : Os) (args : Array Value) : laidMet Tryd.prog laid24 ((laidWorld os #[]).forCall (fun _ _ => 0) ⟨#[], args, []⟩).memory :=
  (LaidIn.of_run [1, 0] 8 (by kernel_rfl) (by kernel_rfl) (by kernel_rfl) (by kernel_rfl)).met
end Go.Proofs.YtaekdnfpgkfjkaaDoor
end
section
namespace Go.Proofs.YtaekdnfpgkfjkaaDoor

theorem bulk_one {H : Type} (d : DataW H) : 1 ≤ Rows.uptoBulk d := by
  cases d with
  | lit l => cases l <;> simp [Rows.uptoBulk]
  | _ => simp [Rows.uptoBulk]
theorem bulk_mem {H : Type} {d : DataW H} : ∀ {l : List (DataW H)}, d ∈ l → Rows.uptoBulk d ≤ Rows.uptoBulkAll l
  | x :: r, h => by
    simp only [Rows.uptoBulkAll]
    rcases List.mem_cons.1 h with rfl | h
    · omega
    · have := bulk_mem h; omega
theorem bulk_len {H : Type} : ∀ l : List (DataW H), l.length ≤ Rows.uptoBulkAll l
  | [] => by simp [Rows.uptoBulkAll]
  | x :: r => by
    have h1 := bulk_one x
    have h2 := bulk_len r
    simp only [Rows.uptoBulkAll, List.length_cons]; omega
theorem str_small {H : Type} {ds : List (DataW H)} {d : DataW H} {b : List UInt8} (hk : Rows.uptoSmall H ds = true) (hd : d ∈ ds) (he : d = .lit (.string b)) : b.length ≤ 1048576 := by
  have h1 : Rows.uptoBulkAll ds ≤ 1048576 := by simpa [Rows.uptoSmall] using hk
  have h2 := bulk_mem hd
  subst he
  simp only [Rows.uptoBulk] at h2
  omega
theorem str_small' {H : Type} {ds : List (DataW H)} {s : ByteArray} (hk : Rows.uptoSmall H ds = true) (hd : .lit (.string s.data.toList) ∈ ds) : s.size ≤ 1048576 := by
  have h1 := str_small hk hd rfl
  rwa [Array.length_toList] at h1
end Go.Proofs.YtaekdnfpgkfjkaaDoor
end
section
namespace Go.Proofs.YtaekdnfpgkfjkaaDoor.marksStripped
open Go.ChangeShapes Go.WideShapes Go.ChangeAt Go.RowKit
open Go.ChangeMaps (open_string shut_string)

theorem laidOut : laidOutB Tryd.prog = true := by kernel_rfl

set_option maxRecDepth 100000 in
theorem contract (H : Type) (enc : TypeId × Value → H) (W : World) (base : Nat) (args : Array Value) (ds gs : List (DataW H)) (before : List MemPlace)
    (hval : ∀ (j : Nat) t v, Tryd.f8.params[j]? = some t → args[j]? = some v → Value.okWide Tryd.prog W .any base t v)
    (hW : DataW.Whole enc Tryd.prog Tryd.f8.params.toList Rows.marksStrippedSpec.vars false W args.toList ds gs before) (hk : Rows.uptoSmall H (ds ++ gs) = true)
    (hsz0 : (DataW.weightsEach Tryd.prog (Tryd.f8.params.toList ++ Rows.marksStrippedSpec.plain.varTypes Tryd.prog) (ds ++ gs)).all (· ≤ reachBytes) = true) (hL : laidMetH Tryd.prog Rows.marksStrippedUptoRow.laid W) :
    Calls Tryd.prog 8 args W fun e W' => ∃ v, e = .returned v ∧ Rows.marksStrippedSpec.post enc Tryd.prog Tryd.f8 false true false false W args v W' := by
  have hT := tabs_of_laid hL
  have h2 := size_of_tabs hT
  have hsz := hsz0
  clear hsz0
  have hW' := hW
  obtain ⟨p, q, hA0, hV, rfl, hfz, hnd⟩ := hW
  have hA : DataW.TrodAll enc Tryd.prog W 0 (fun _ => true) true Tryd.f8.params.toList args.toList ds p := hA0
  rw [Tryd.params8] at hA hval hsz
  obtain ⟨v0, vs0, d0, ds0, p0, q0, hargs, rfl, rfl, h0, r0⟩ := trodAll_cons hA
  obtain ⟨rfl, rfl, rfl⟩ := trodAll_nil r0
  obtain rfl : args = #[v0] := by cases args; simp_all
  obtain ⟨rfl, rfl⟩ := trodVars_none hV
  clear hA0
  have k0 := h0
  have lt0 : ∀ x ∈ p0, x.block < W.heap.size := by obtain ⟨m, hm⟩ := k0; exact DataW.trod_lt m _ _ _ hm
  obtain ⟨s0, rfl, rfl, rfl, ws0⟩ := open_string Tryd.underlying9 (hval 0 9 v0 rfl rfl) h0
  have hs0 : s0.size ≤ 1048576 := str_small' hk (by simp)
  clear hval
  refine (stripped_walk hT h2 (by omega)).mono fun e W' ⟨he, bel⟩ => ?_
  subst he
  exact ⟨_, rfl, _, _, _, [], _, [], hW', trodAll_mk1 (shut_bool Tryd.underlying4 _), trodAll_cons_mk (Below.trod laidOut (by kernel_rfl) (of_decide_eq_true (by kernel_rfl)) k0 bel lt0) (trodAll_mk0), rfl, bel.frame _, fun h => by cases h⟩

theorem reads (os : Os) {H : Type} (enc : TypeId × Value → H) : ∃ places, DataW.whole enc Tryd.prog ((laidWorld os #[]).forCall (fun _ _ => 0) ⟨#[], #[.string ⟨#[]⟩], []⟩).memory Tryd.f8.params.toList Rows.marksStrippedSpec.vars false (#[.string ⟨#[]⟩] : Array Value).toList 8 = some ([.lit (.string [])], [], places) :=
  ⟨[], by kernel_rfl⟩

set_option maxRecDepth 100000 in
theorem lifted (os : Os) (started : os.Started) (H : Type) (enc : TypeId × Value → H) (F : Stop.Interp) :
    ReturnsInHanded {} Tryd.checked os 8 .any ((Rows.OpenSpec.upto Rows.marksStrippedSpec).preRow enc Tryd.prog Tryd.f8 Rows.marksStrippedUptoRow.domain false Rows.marksStrippedUptoRow.laid) (((Rows.OpenSpec.upto Rows.marksStrippedSpec).at F).post enc Tryd.prog Tryd.f8 false true false false) := by
  obtain ⟨places, hx⟩ := reads os enc
  refine returnsInHanded_of_row (C := Tryd.checked) (s := (Rows.OpenSpec.upto Rows.marksStrippedSpec)) own24 started (by kernel_rfl) Tryd.func8
    (witness_row_at (enc := enc) (C := Tryd.checked) false (laidWorld os #[]) #[.string ⟨#[]⟩] rfl (by kernel_rfl) (by kernel_rfl) (by kernel_rfl)
      (OpenSpec.preRow_of_cond 8 hx (by kernel_rfl) (fun k hk => by cases hk; kernel_rfl) (by kernel_rfl) (laid_met os _))) ?_
  intro W base args ds gs before hval hW _ hcond hsz hL _ _
  exact contract H enc W base args ds gs before hval hW (hcond _ rfl) hsz hL

theorem said : Rows.MarksStrippedUptoSaid :=
  OpenClaim.holds_of_cond 8 Tryd.f8 rfl rfl rfl rfl rfl rfl rfl ⟨rfl, rfl, rfl, rfl, rfl⟩ rfl rfl rfl rfl rfl (by kernel_rfl) Tryd.func8 (by kernel_rfl)
    (of_decide_eq_true (by kernel_rfl)) (by unfold Func.isWrapper; first | (rw [if_pos (by decide +kernel)]; kernel_rfl) | (rw [if_neg (by decide +kernel)]; exact ⟨rfl, rfl⟩))
    (fun os started H enc _ F => by rw [OpenClaim.pre_eq_preRow]; exact lifted os started H enc F)

theorem plain (f : FuncId) (fn : Func) (hf : Tryd.pinned.checked.prog.funcNamed "furrow/furrowlaw24.MarksStripped" = some f) (hfn : Tryd.pinned.checked.prog.funcs[f]? = some fn) :
    false = Tryd.pinned.checked.prog.looks [] ∧ ∀ (j : Nat) t, fn.params[j]? = some t → Tryd.pinned.checked.prog.wantsStandIn t = false := by
  obtain rfl : f = 8 := Option.some.inj ((show Tryd.prog.funcNamed "furrow/furrowlaw24.MarksStripped" = some 8 by kernel_rfl).symm.trans hf) |>.symm
  obtain rfl : fn = Tryd.f8 := (Option.some.inj (Tryd.func8.symm.trans hfn)).symm
  refine ⟨by kernel_rfl, fun j t ht => ?_⟩
  rw [Tryd.params8] at ht
  have ht2 : t = 9 := by simpa using Array.mem_of_getElem? ht
  rcases ht2 with rfl
  exact (show Tryd.prog.wantsStandIn 9 = false by kernel_rfl)

/-- The statement. -/
theorem proved : Rows.MarksStrippedUptoCardSaid :=
  Claim7.holds_tied_plain_at .later [] _ _ _ _ said (fun _ h => by cases h) (by kernel_rfl) (fun _ h => by cases h) marksStrippedUpto_row_tie rfl ⟨rfl, rfl⟩ (by kernel_rfl) rfl plain (by kernel_rfl)
#print axioms proved
end Go.Proofs.YtaekdnfpgkfjkaaDoor.marksStripped
end
