/- Any bytes without their marks, and where the others stand, by both; an answer is new memory: true, for bytes within the second form (arguments of bulk at most 1048576). -/
import Derived.Test.YtaekdnfpgkfjkaaDoorC7
import Derived.Test.YtaekdnfpgkfjkaaDoorC10
import Derived.Test.YtaekdnfpgkfjkaaDoorC9
import Derived.Test.YtaekdnfpgkfjkaaDoorN8
import Derived.Test.YtaekdnfpgkfjkaaDoorShelf
import Derived.Test.YtaekdnfpgkfjkaaDoorCards
import Derived.Test.YtaekdnfpgkfjkaaDoorTie
import Derived.WalkKit
import Derived.ProofKit
import Derived.OpenShut
import Derived.Deep.DeepHandedRow
import Derived.Deep.DeepWitnessRowRef
import Derived.Lib.LaidIn
import Derived.Lib.LaidU8T
import Derived.Test.YtaekdnfpgkfjkaaDoorRows
import Derived.ShutString
import Derived.ChangeOld
import Derived.Below
import Derived.SizedLaws
section
namespace Go.Proofs.YtaekdnfpgkfjkaaDoor
open Go.RowKit
attribute [local go_sem] Oper.semAt_some

set_option maxRecDepth 100000 in
set_option maxHeartbeats 4000000 in
theorem strips_walk {w : World} {s : ByteArray} (hT : Lib.Utf8Tabs 0 1 w) (h2 : 2 ≤ w.heap.size) (hs : s.size ≤ 1099511627776) :
    Calls Tryd.prog 7 #[.string s] w fun e w' => e = .returned (.bool true) ∧ Aft w w' := by
  have C1 := Strip_ok hT h2 (Nat.le_trans hs (by omega))
  have C2 := fun W => rStrip_ok (w := W) hs
  have C3 := fun W => Places_ok (w := W) hs
  have C4 := fun W => rPlaces_ok (w := W) hs
  have CA : ∀ W, Aft w W → Calls Tryd.prog 11 #[] W fun e w' => e = .returned (.bool true) ∧ Aft W w' := fun W hW => awake_ok (tabs_aft hT hW) (by have := hW.size; omega)
  obtain ⟨t, ht⟩ : ∃ c, txt (stripL s) = c := ⟨_, rfl⟩
  obtain ⟨e, he⟩ : ∃ e, cntM (chs s) = e := ⟨_, rfl⟩
  obtain ⟨L, hL⟩ : ∃ L, plT (chs s) (chs s).length = L := ⟨_, rfl⟩
  have hpl := plT_len (chs s) (chs s).length
  have hcl := chs_len s
  rw [hL] at hpl
  rw [ht, he] at C1 C2
  rw [hL] at C3 C4
  clear ht he hL
  go_enter Tryd.func7, Tryd.ntmps7
  go_upto_region 3 with (first
    | (go_at_call 20; refine C1.mono ?_; rintro r1 w1 ⟨rfl, b1⟩)
    | (go_at_call 21; refine (C2 _).mono ?_; rintro r2 w2 ⟨rfl, b2⟩))
  have a2 := b1.trans b2
  go_upto_region 5 with (first
    | (go_at_call 22; refine (C3 _).mono ?_; rintro r3 w3 ⟨v3, rfl, I3, b3⟩; first
        | (have J4 := I3; have b4 := b3; have hz4 := b3.size; have J3' := J3.aft b3)
        | (have J3 := I3; have b3' := b3; have hz3 := b3.size; have hlt3 := I3.lt))
    | (go_at_call 23; refine (C4 _).mono ?_; rintro r5 w5 ⟨v5, rfl, I5, b5⟩; have hz5 := b5.size))
  have Ja := J3'.aft b5
  have Jb := J4.aft b5
  have a5 := ((a2.trans b3').trans b4).trans b5
  clear J3 J3' J4 I3 b3 b3' b4 b5 C1 C2 C3 C4
  obtain ⟨Aa, ca, rfl, hca1, hca2, Ra⟩ := Ja.val
  obtain ⟨Ab, cb, rfl, hcb1, hcb2, Rb⟩ := Jb.val
  obtain ⟨Ac, cc, rfl, hcc1, hcc2, Rc⟩ := I5.val
  have hz5' : w.heap.size ≤ w2.heap.size := a2.size
  have S1 := sameInts_ok (c := ca) (c2 := cc) rfl rfl Ra Rc (by omega)
  rw [show decide (L = L) = true by simp] at S1
  have hao := Ja.lt
  have hbo := Jb.lt
  have hco := I5.lt
  obtain ⟨n, hn⟩ : ∃ n, L.length = n := ⟨_, rfl⟩
  rw [hn] at hpl hca1 hcb1 hcc1 S1 hao hbo hco hlt3 Ja Jb I5 ⊢
  have HN := Lib.hid hn
  clear hn
  go_upto_region 8 with (go_at_call 24; refine S1.mono ?_; rintro r6 w6 ⟨rfl, d, rfl⟩)
  obtain ⟨W6, hW6⟩ : ∃ W6, w5.drewN d = W6 := ⟨_, rfl⟩
  have J6 : Ints W6 w2.heap.size 3 .i64 (.slice Aa n ca) L := by rw [← hW6]; exact Ja.drewN d
  have a6 : Aft w W6 := by rw [← hW6]; exact a5.trans ⟨rfl, rfl, rfl, Nat.le_refl _, fun _ _ => rfl⟩
  have Rb6 : RdInts W6 W6.heap.size .i64 Ab L := by rw [← hW6]; exact Rb.drewN d
  have Rc6 : RdInts W6 W6.heap.size .i64 Ac L := by rw [← hW6]; exact Rc.drewN d
  rw [hW6]
  clear hW6 Ja Jb I5 Ra Rb Rc S1
  go_loopg [10] n (fun gk iv wr => ∃ (k : Nat) (La : List Int), k + gk = n ∧ iv = .int .i64 k ∧ La.length = n ∧ Ints wr w2.heap.size 3 .i64 (.slice Aa n ca) La ∧ Frm (fun j => (Value.slice Aa n ca).ownBlock = some j) W6 wr)
  case atStart => exact ⟨0, L, by omega, rfl, HN.out, J6, Frm.refl _ _⟩
  case round =>
    clear J6
    obtain ⟨k, La, hk, rfl, hLa, J, F⟩ := hrel
    by_cases hkn : k < n
    · have hA : ∃ g, Aa = some ⟨g, 0, none⟩ := by
        rcases J.cases' with ⟨_, e⟩ | ⟨g, cap', e⟩
        · rw [e] at hLa; simp at hLa; omega
        · injection e with e _ _; exact ⟨g, e⟩
      obtain ⟨g, rfl⟩ := hA
      have hat := J.at_
      have hc := hat.2.2.2.2.2.2 k (by omega)
      have hf := hat.2.2.2.2.2.1
      have J2 := J.set k (-1)
      have F2 : Frm (fun j => (Value.slice (some ⟨g, 0, none⟩) n ca).ownBlock = some j) W6 (wr.setCell ⟨g, k, none⟩ (.int .i64 (-1))) := F.set rfl _
      have hl2 : (La.set k (-1)).length = n := by rw [List.length_set]; exact hLa
      clear hat J F hLa
      have JJ := Lib.hid (And.intro J2 F2)
      clear J2 F2
      go_wp2
      go_roundg (n - (k + 1))
      case rel => exact ⟨k + 1, La.set k (-1), by omega, by go_num, hl2, JJ.out.1, JJ.out.2⟩
      case measure => omega
    · have hkk : k = n := by omega
      clear hk
      subst hkk
      have a7 : Aft w wr := Below.trans a6 (F.below a6.size (fun j hj e => by have := hao j e; omega))
      have hneB : ∀ b off, Ab = some ⟨b, off, none⟩ → ¬ (Value.slice Aa k ca).ownBlock = some b := fun b off e h => by
        subst e
        have h1 := hlt3 b h
        have h2 := hbo b rfl
        omega
      have Rb7 := Rb6.frmA F hneB
      have S2 := fun c => sameInts_ok (c := cb) (c2 := c) HN.out.symm HN.out.symm Rb7 (Rc6.frmA F (fun b off e h => by
        subst e
        have h1 := hlt3 b h
        have h2 := hco b rfl
        omega)) (by omega)
      rw [show decide (L = L) = true by simp] at S2
      have S3 := S2 cc
      clear S2 F J Rb6 Rc6 Rb7 hneB
      go_wp2_with (first
        | (go_at_call 24; refine S3.mono ?_; rintro r8 w8 ⟨rfl, d8, rfl⟩; have a8 : Aft w (wr.drewN d8) := a7.trans ⟨rfl, rfl, rfl, Nat.le_refl _, fun _ _ => rfl⟩; have CA8 := CA _ a8)
        | (go_at_call 11; refine CA8.mono ?_; rintro r9 w9 ⟨rfl, b9⟩))
      go_ret
      exact ⟨rfl, a8.trans b9⟩
end Go.Proofs.YtaekdnfpgkfjkaaDoor
end
section
namespace Go.Proofs.YtaekdnfpgkfjkaaDoor
open Go.ChangeShapes Go.WideShapes Go.ChangeAt Go.RowKit Go.Lib

theorem own24 : ownKnob Tryd.prog.godebug = none := by kernel_rfl
def laid24 : List (String × DataW Unit) := [("unicode/utf8.acceptRanges", Rows.laid_unicode_utf8_acceptRanges), ("unicode/utf8.first", Rows.laid_unicode_utf8_first)]
theorem data_acc : (Rows.laid_unicode_utf8_acceptRanges : DataW Unit) = acceptData := by kernel_rfl
theorem data_first : Rows.laid_unicode_utf8_first = firstData := by kernel_rfl
theorem tabs_of_laid {W : World} (h : laidMet Tryd.prog laid24 W) : Lib.Utf8Tabs 0 1 W :=
  utf8Tabs_of_readsT (ρ := Tryd.lays197_ren) { Tryd.lays197 with } ⟨by kernel_rfl, by kernel_rfl, by kernel_rfl, by kernel_rfl, by kernel_rfl, by kernel_rfl, by kernel_rfl⟩
    (Lib.laidMet.reads h (by rw [← data_first]; exact .tail _ (.head _))) (Lib.laidMet.reads h (by rw [← data_acc]; exact .head _))
theorem size_of_tabs {W : World} (h : Lib.Utf8Tabs 0 1 W) : 2 ≤ W.heap.size := by
  have h1 := (h.2 0 (by decide)).1
  rcases Nat.lt_or_ge 1 W.heap.size with hlt | hge
  · exact hlt
  · unfold World.cell? at h1
    rw [Array.getElem?_eq_none hge] at h1
    cases h1

/-- A world for the witness. -/
noncomputable def laidWorld (os : Os) (o : Array Obj) : World :=
  let w0 := World.holding Tryd.prog os ⟨o, #[], []⟩
  let put (h : Array Obj) (g : Nat) (cs : Array Value) : Array Obj := h.modify g fun
    | .cells _ t frozen => .cells cs t frozen
    | o => o
  let h1 := put w0.heap 0 (Lib.firstTab.map fun z => Value.int .u8 z).toArray
  let h2 := put h1 1 ((List.range 16).flatMap fun i => [Value.int .u8 (Lib.accLo i), Value.int .u8 (Lib.accHi i)]).toArray
  { w0 with heap := h2 }
theorem laid_met (os : Os) (args : Array Value) : laidMet Tryd.prog laid24 ((laidWorld os #[]).forCall (fun _ _ => 0) ⟨#[], args, []⟩).memory :=
  (LaidIn.of_run [1, 0] 8 (by kernel_rfl) (by kernel_rfl) (by kernel_rfl) (by kernel_rfl)).met
end Go.Proofs.YtaekdnfpgkfjkaaDoor
end
section
namespace Go.Proofs.YtaekdnfpgkfjkaaDoor

theorem bulk_one {H : Type} (d : DataW H) : 1 ≤ Rows.uptoBulk d := by
  cases d with
  | lit l => cases l <;> simp [Rows.uptoBulk]
  | _ => simp [Rows.uptoBulk]
theorem bulk_mem {H : Type} {d : DataW H} : ∀ {l : List (DataW H)}, d ∈ l → Rows.uptoBulk d ≤ Rows.uptoBulkAll l
  | x :: r, h => by
    simp only [Rows.uptoBulkAll]
    rcases List.mem_cons.1 h with rfl | h
    · omega
    · have := bulk_mem h; omega
theorem bulk_len {H : Type} : ∀ l : List (DataW H), l.length ≤ Rows.uptoBulkAll l
  | [] => by simp [Rows.uptoBulkAll]
  | x :: r => by
    have h1 := bulk_one x
    have h2 := bulk_len r
    simp only [Rows.uptoBulkAll, List.length_cons]; omega
theorem str_small {H : Type} {ds : List (DataW H)} {d : DataW H} {b : List UInt8} (hk : Rows.uptoSmall H ds = true) (hd : d ∈ ds) (he : d = .lit (.string b)) : b.length ≤ 1048576 := by
  have h1 : Rows.uptoBulkAll ds ≤ 1048576 := by simpa [Rows.uptoSmall] using hk
  have h2 := bulk_mem hd
  subst he
  simp only [Rows.uptoBulk] at h2
  omega
theorem str_small' {H : Type} {ds : List (DataW H)} {s : ByteArray} (hk : Rows.uptoSmall H ds = true) (hd : .lit (.string s.data.toList) ∈ ds) : s.size ≤ 1048576 := by
  have h1 := str_small hk hd rfl
  rwa [Array.length_toList] at h1
end Go.Proofs.YtaekdnfpgkfjkaaDoor
end
section
namespace Go.Proofs.YtaekdnfpgkfjkaaDoor.marksStrips
open Go.ChangeShapes Go.WideShapes Go.ChangeAt Go.RowKit
open Go.ChangeMaps (open_string shut_string)

theorem laidOut : laidOutB Tryd.prog = true := by kernel_rfl

set_option maxRecDepth 100000 in
theorem contract (H : Type) (enc : TypeId × Value → H) (W : World) (base : Nat) (args : Array Value) (ds gs : List (DataW H)) (before : List MemPlace)
    (hval : ∀ (j : Nat) t v, Tryd.f7.params[j]? = some t → args[j]? = some v → Value.okWide Tryd.prog W .any base t v)
    (hW : DataW.Whole enc Tryd.prog Tryd.f7.params.toList Rows.marksStripsSpec.vars false W args.toList ds gs before) (hk : Rows.uptoSmall H (ds ++ gs) = true)
    (hsz0 : (DataW.weightsEach Tryd.prog (Tryd.f7.params.toList ++ Rows.marksStripsSpec.plain.varTypes Tryd.prog) (ds ++ gs)).all (· ≤ reachBytes) = true) (hL : laidMetH Tryd.prog Rows.marksStripsUptoRow.laid W) :
    Calls Tryd.prog 7 args W fun e W' => ∃ v, e = .returned v ∧ Rows.marksStripsSpec.post enc Tryd.prog Tryd.f7 false true false false W args v W' := by
  have hT := tabs_of_laid hL
  have h2 := size_of_tabs hT
  have hsz := hsz0
  clear hsz0
  have hW' := hW
  obtain ⟨p, q, hA0, hV, rfl, hfz, hnd⟩ := hW
  have hA : DataW.TrodAll enc Tryd.prog W 0 (fun _ => true) true Tryd.f7.params.toList args.toList ds p := hA0
  rw [Tryd.params7] at hA hval hsz
  obtain ⟨v0, vs0, d0, ds0, p0, q0, hargs, rfl, rfl, h0, r0⟩ := trodAll_cons hA
  obtain ⟨rfl, rfl, rfl⟩ := trodAll_nil r0
  obtain rfl : args = #[v0] := by cases args; simp_all
  obtain ⟨rfl, rfl⟩ := trodVars_none hV
  clear hA0
  have k0 := h0
  have lt0 : ∀ x ∈ p0, x.block < W.heap.size := by obtain ⟨m, hm⟩ := k0; exact DataW.trod_lt m _ _ _ hm
  obtain ⟨s0, rfl, rfl, rfl, ws0⟩ := open_string Tryd.underlying9 (hval 0 9 v0 rfl rfl) h0
  have hs0 : s0.size ≤ 1048576 := str_small' hk (by simp)
  clear hval
  refine (strips_walk hT h2 (by omega)).mono fun e W' ⟨he, bel⟩ => ?_
  subst he
  exact ⟨_, rfl, _, _, _, [], _, [], hW', trodAll_mk1 (shut_bool Tryd.underlying4 _), trodAll_cons_mk (Below.trod laidOut (by kernel_rfl) (of_decide_eq_true (by kernel_rfl)) k0 bel lt0) (trodAll_mk0), rfl, bel.frame _, fun h => by cases h⟩

theorem reads (os : Os) {H : Type} (enc : TypeId × Value → H) : ∃ places, DataW.whole enc Tryd.prog ((laidWorld os #[]).forCall (fun _ _ => 0) ⟨#[], #[.string ⟨#[]⟩], []⟩).memory Tryd.f7.params.toList Rows.marksStripsSpec.vars false (#[.string ⟨#[]⟩] : Array Value).toList 8 = some ([.lit (.string [])], [], places) :=
  ⟨[], by kernel_rfl⟩

set_option maxRecDepth 100000 in
theorem lifted (os : Os) (started : os.Started) (H : Type) (enc : TypeId × Value → H) (F : Stop.Interp) :
    ReturnsInHanded {} Tryd.checked os 7 .any ((Rows.OpenSpec.upto Rows.marksStripsSpec).preRow enc Tryd.prog Tryd.f7 Rows.marksStripsUptoRow.domain false Rows.marksStripsUptoRow.laid) (((Rows.OpenSpec.upto Rows.marksStripsSpec).at F).post enc Tryd.prog Tryd.f7 false true false false) := by
  obtain ⟨places, hx⟩ := reads os enc
  refine returnsInHanded_of_row (C := Tryd.checked) (s := (Rows.OpenSpec.upto Rows.marksStripsSpec)) own24 started (by kernel_rfl) Tryd.func7
    (witness_row_at (enc := enc) (C := Tryd.checked) false (laidWorld os #[]) #[.string ⟨#[]⟩] rfl (by kernel_rfl) (by kernel_rfl) (by kernel_rfl)
      (OpenSpec.preRow_of_cond 8 hx (by kernel_rfl) (fun k hk => by cases hk; kernel_rfl) (by kernel_rfl) (laid_met os _))) ?_
  intro W base args ds gs before hval hW _ hcond hsz hL _ _
  exact contract H enc W base args ds gs before hval hW (hcond _ rfl) hsz hL

theorem said : Rows.MarksStripsUptoSaid :=
  OpenClaim.holds_of_cond 7 Tryd.f7 rfl rfl rfl rfl rfl rfl rfl ⟨rfl, rfl, rfl, rfl, rfl⟩ rfl rfl rfl rfl rfl (by kernel_rfl) Tryd.func7 (by kernel_rfl)
    (of_decide_eq_true (by kernel_rfl)) (by unfold Func.isWrapper; first | (rw [if_pos (by decide +kernel)]; kernel_rfl) | (rw [if_neg (by decide +kernel)]; exact ⟨rfl, rfl⟩))
    (fun os started H enc _ F => by rw [OpenClaim.pre_eq_preRow]; exact lifted os started H enc F)

theorem plain (f : FuncId) (fn : Func) (hf : Tryd.pinned.checked.prog.funcNamed "furrow/furrowlaw24.MarksStrips" = some f) (hfn : Tryd.pinned.checked.prog.funcs[f]? = some fn) :
    false = Tryd.pinned.checked.prog.looks [] ∧ ∀ (j : Nat) t, fn.params[j]? = some t → Tryd.pinned.checked.prog.wantsStandIn t = false := by
  obtain rfl : f = 7 := Option.some.inj ((show Tryd.prog.funcNamed "furrow/furrowlaw24.MarksStrips" = some 7 by kernel_rfl).symm.trans hf) |>.symm
  obtain rfl : fn = Tryd.f7 := (Option.some.inj (Tryd.func7.symm.trans hfn)).symm
  refine ⟨by kernel_rfl, fun j t ht => ?_⟩
  rw [Tryd.params7] at ht
  have ht2 : t = 9 := by simpa using Array.mem_of_getElem? ht
  rcases ht2 with rfl
  exact (show Tryd.prog.wantsStandIn 9 = false by kernel_rfl)

/-- The statement. -/
theorem proved : Rows.MarksStripsUptoCardSaid :=
  Claim7.holds_tied_plain_at .later [] _ _ _ _ said (fun _ h => by cases h) (by kernel_rfl) (fun _ h => by cases h) marksStripsUpto_row_tie rfl ⟨rfl, rfl⟩ (by kernel_rfl) rfl plain (by kernel_rfl)
#print axioms proved
end Go.Proofs.YtaekdnfpgkfjkaaDoor.marksStrips
end
