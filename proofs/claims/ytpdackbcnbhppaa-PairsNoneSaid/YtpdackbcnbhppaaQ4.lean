/- rotate of pairs walked. -/
import Derived.Test.YtpdackbcnbhppaaQ3
namespace Go.Proofs.Ytpdackbcnbhppaa
open Go.RowKit
attribute [local go_sem] Oper.semAt_some

theorem swapRange_z {w : World} {g n cap : Nat} {P u Q v S : List (Int × Int)} {A B K : Int} (hA : A = (P.length : Int)) (hB : B = ((P.length + u.length + Q.length : Nat) : Int)) (hK : K = (u.length : Int)) (hn : n = (P ++ (u ++ (Q ++ (v ++ S)))).length)
    (hP : Prs w g (P ++ (u ++ (Q ++ (v ++ S))))) (h : u.length = v.length) (hm : n ≤ 4611686018427387904) (fv : Value) :
    Calls Try.prog 109 #[.slice (some ⟨g, 0, none⟩) n cap, .int .i64 A, .int .i64 B, .int .i64 K, fv] w fun r w' => r = .returned (.tuple #[]) ∧ Prs w' g (P ++ (v ++ (Q ++ (u ++ S)))) ∧ Frm (fun j => j = g) w w' := by
  subst hA hB hK
  have := swapRange_ok (cap := cap) (a := P.length) (b := P.length + u.length + Q.length) (k := u.length) hn hP (by omega) (by rw [hn]; simp; omega) hm fv
  rw [swpR_parts _ _ _ _ _ h] at this
  exact this

set_option maxRecDepth 100000 in
set_option maxHeartbeats 4000000 in
theorem rotate_ok {w : World} {g n cap m : Nat} {P u v S : List (Int × Int)} {A M B : Int} (hA : A = (P.length : Int)) (hM : M = (m : Int)) (hm : m = P.length + u.length) (hB : B = ((P.length + u.length + v.length : Nat) : Int)) (hn : n = (P ++ (u ++ (v ++ S))).length)
    (hP : Prs w g (P ++ (u ++ (v ++ S)))) (hu : 0 < u.length) (hv : 0 < v.length) (hm2 : n ≤ 4611686018427387904) (fv : Value) :
    Calls Try.prog 108 #[.slice (some ⟨g, 0, none⟩) n cap, .int .i64 A, .int .i64 M, .int .i64 B, fv] w fun r w' => r = .returned (.tuple #[]) ∧ Prs w' g (P ++ (v ++ (u ++ S))) ∧ Frm (fun j => j = g) w w' := by
  subst hA hM hB
  have hlen : n = P.length + u.length + v.length + S.length := by rw [hn]; simp; omega
  have HM := Lib.hid hm
  have HL := Lib.hid hlen
  have e1 : IntKind.i64.wrap ((m : Int) - (P.length : Int)) = (u.length : Int) := by rw [IntWalk.i64_in _ (by omega)]; omega
  have e2 : IntKind.i64.wrap (((P.length + u.length + v.length : Nat) : Int) - (m : Int)) = (v.length : Int) := by rw [IntWalk.i64_in _ (by omega)]; omega
  obtain ⟨T, hT⟩ : ∃ T, P ++ (v ++ (u ++ S)) = T := ⟨_, rfl⟩
  rw [hT]
  have HT := Lib.hid hT
  have hTl : T.length = n := by rw [← hT, hlen]; simp; omega
  have HTL := Lib.hid hTl
  obtain ⟨bb, hbb⟩ : ∃ bb : Nat, P.length + u.length + v.length = bb := ⟨_, rfl⟩
  rw [hbb] at e2 ⊢
  obtain ⟨pl, hpl⟩ : ∃ pl : Nat, P.length = pl := ⟨_, rfl⟩
  obtain ⟨ul, hul⟩ : ∃ ul : Nat, u.length = ul := ⟨_, rfl⟩
  obtain ⟨vl, hvl⟩ : ∃ vl : Nat, v.length = vl := ⟨_, rfl⟩
  have hmle : m ≤ 4611686018427387904 := by omega
  have hble : bb ≤ 4611686018427387904 := by omega
  rw [hpl, hul] at e1
  rw [hvl] at e2
  rw [hpl]
  have HUL := Lib.hid hul
  have HVL := Lib.hid hvl
  have HPL := Lib.hid hpl
  clear hm hn hlen hT hTl hbb hpl hul hvl
  go_enter Try.func108, Try.ntmps108
  go_wp2
  clear e1 e2
  go_loopg [10, 11] (ul + vl) (fun gk iv jv wr => ∃ (P' u' v' S' : List (Int × Int)) (i j : Nat), gk = i + j ∧ u'.length = i ∧ v'.length = j ∧ iv = .int .i64 i ∧ jv = .int .i64 j ∧ P'.length + i = m ∧ 0 < i ∧ 0 < j ∧ P' ++ (v' ++ (u' ++ S')) = T ∧ Prs wr g (P' ++ (u' ++ (v' ++ S'))) ∧ Frm (fun j => j = g) w wr)
  case atStart => exact ⟨P, u, v, S, ul, vl, rfl, HUL.out, HVL.out, rfl, rfl, by have := HM.out; have := HUL.out; omega, by have := HUL.out; omega, by have := HVL.out; omega, HT.out, hP, Frm.refl _ _⟩
  case round =>
    clear hP
    obtain ⟨P', u', v', S', i, j, hgk, hui, hvj, rfl, rfl, hPm, hi0, hj0, hTT, hP, F⟩ := hrel
    have hle := congrArg List.length hTT
    simp only [List.length_append] at hle
    rw [HTL.out, hui, hvj] at hle
    have v1 : IntKind.i64.wrap ((m : Int) - (i : Int)) = ((P'.length : Nat) : Int) := by rw [IntWalk.i64_in _ (by omega)]; omega
    have hd := hP.lt
    obtain ⟨pl', hpl'⟩ : ∃ pl' : Nat, P'.length = pl' := ⟨_, rfl⟩
    rw [hpl'] at v1 hle hPm
    have hib : i ≤ 4611686018427387904 := by omega
    have hjb : j ≤ 4611686018427387904 := by omega
    have HGK := Lib.hid hgk
    have HUI := Lib.hid hui
    have HVJ := Lib.hid hvj
    have HPM := Lib.hid hPm
    have HTT := Lib.hid hTT
    have HLE := Lib.hid hle
    have HPL' := Lib.hid hpl'
    clear hgk hui hvj hPm hTT hle hpl'
    have hN : n = (P' ++ (u' ++ (v' ++ S'))).length := by have := HLE.out; have := HUI.out; have := HVJ.out; have := HPL'.out; simp; omega
    have HN := Lib.hid hN
    clear hN
    rcases Nat.lt_trichotomy i j with hlt | hlt | hlt
    · -- the second is longer
      obtain ⟨d, hd2⟩ : ∃ d : Nat, j - i = d := ⟨_, rfl⟩
      obtain ⟨c1, hc1⟩ : ∃ c1 : Nat, m + j = c1 := ⟨_, rfl⟩
      obtain ⟨c2, hc2⟩ : ∃ c2 : Nat, m + j - i = c2 := ⟨_, rfl⟩
      have hmj : m + j ≤ n := by have := HLE.out; have := HPM.out; omega
      have w1 : IntKind.i64.wrap ((m : Int) + (j : Int)) = (c1 : Int) := by rw [IntWalk.i64_in _ (by omega)]; omega
      have w2 : IntKind.i64.wrap ((c1 : Int) - (i : Int)) = (c2 : Int) := by rw [IntWalk.i64_in _ (by omega)]; omega
      have w3 : IntKind.i64.wrap ((j : Int) - (i : Int)) = (d : Int) := by rw [IntWalk.i64_in _ (by omega)]; omega
      have e : P' ++ (u' ++ (v' ++ S')) = P' ++ (u' ++ (v'.take d ++ (v'.drop d ++ S'))) := by rw [← List.append_assoc (v'.take d), List.take_append_drop]
      have hP2 : Prs wr g (P' ++ (u' ++ (v'.take d ++ (v'.drop d ++ S')))) := e ▸ hP
      have hN2 : n = (P' ++ (u' ++ (v'.take d ++ (v'.drop d ++ S')))).length := e ▸ HN.out
      have hA : (pl' : Int) = (P'.length : Int) := by have := HPL'.out; omega
      have hB : (c2 : Int) = ((P'.length + u'.length + (v'.take d).length : Nat) : Int) := by have := HPL'.out; have := HUI.out; have := HVJ.out; have := HPM.out; simp; omega
      have hK : (i : Int) = (u'.length : Int) := by have := HUI.out; omega
      have hll : u'.length = (v'.drop d).length := by have := HUI.out; have := HVJ.out; simp; omega
      have CT := swapRange_z (cap := cap) hA hB hK hN2 hP2 hll hm2 fv
      have HD := Lib.hid hd2
      clear e hP2 hN2 hA hB hK hll hd2 hc1 hc2
      go_wp2_with (go_at_call 109; refine CT.mono ?_; rintro r1 w1 ⟨rfl, P1, F1⟩)
      go_roundg (i + d)
      case rel =>
        exact ⟨P', v'.drop d, v'.take d, u' ++ S', i, d, rfl, by have := HVJ.out; have := HD.out; simp; omega, by have := HVJ.out; have := HD.out; simp; omega, rfl, rfl, by have := HPL'.out; have := HPM.out; omega, hi0, by have := HD.out; omega, by rw [← List.append_assoc (v'.take d), List.take_append_drop]; exact HTT.out, P1, F.trans F1 (fun _ _ h => h)⟩
      case measure => have := HGK.out; have := HD.out; omega
    · -- of one length: the last exchange
      subst hlt
      have hP2 : Prs wr g (P' ++ (u' ++ ([] ++ (v' ++ S')))) := hP
      have hN2 : n = (P' ++ (u' ++ ([] ++ (v' ++ S')))).length := HN.out
      have hA : (pl' : Int) = (P'.length : Int) := by have := HPL'.out; omega
      have hB : (m : Int) = ((P'.length + u'.length + ([] : List (Int × Int)).length : Nat) : Int) := by have := HPL'.out; have := HUI.out; have := HPM.out; simp; omega
      have hK : (i : Int) = (u'.length : Int) := by have := HUI.out; omega
      have hll : u'.length = v'.length := by have := HUI.out; have := HVJ.out; omega
      have CT := swapRange_z (cap := cap) hA hB hK hN2 hP2 hll hm2 fv
      clear hP2 hN2 hA hB hK hll
      go_wp2_with (go_at_call 109; refine CT.mono ?_; rintro r1 w1 ⟨rfl, P1, F1⟩)
      go_end0
      rw [List.nil_append, HTT.out] at P1
      exact ⟨rfl, P1, F.trans F1 (fun _ _ h => h)⟩
    · -- the first is longer
      obtain ⟨d, hd2⟩ : ∃ d : Nat, i - j = d := ⟨_, rfl⟩
      have w3 : IntKind.i64.wrap ((i : Int) - (j : Int)) = (d : Int) := by rw [IntWalk.i64_in _ (by omega)]; omega
      have e : P' ++ (u' ++ (v' ++ S')) = P' ++ (u'.take j ++ (u'.drop j ++ (v' ++ S'))) := by rw [← List.append_assoc (u'.take j), List.take_append_drop]
      have hP2 : Prs wr g (P' ++ (u'.take j ++ (u'.drop j ++ (v' ++ S')))) := e ▸ hP
      have hN2 : n = (P' ++ (u'.take j ++ (u'.drop j ++ (v' ++ S')))).length := e ▸ HN.out
      have hA : (pl' : Int) = (P'.length : Int) := by have := HPL'.out; omega
      have hB : (m : Int) = ((P'.length + (u'.take j).length + (u'.drop j).length : Nat) : Int) := by have := HPL'.out; have := HUI.out; have := HPM.out; simp; omega
      have hK : (j : Int) = ((u'.take j).length : Int) := by have := HUI.out; simp; omega
      have hll : (u'.take j).length = v'.length := by have := HUI.out; have := HVJ.out; simp; omega
      have CT := swapRange_z (cap := cap) hA hB hK hN2 hP2 hll hm2 fv
      have HD := Lib.hid hd2
      clear e hP2 hN2 hA hB hK hll hd2
      go_wp2_with (go_at_call 109; refine CT.mono ?_; rintro r1 w1 ⟨rfl, P1, F1⟩)
      go_roundg (d + j)
      case rel =>
        exact ⟨P' ++ v', u'.drop j, u'.take j, S', d, j, rfl, by have := HUI.out; have := HD.out; simp; omega, by have := HUI.out; have := HD.out; simp; omega, rfl, rfl, by have := HPL'.out; have := HPM.out; have := HVJ.out; have := HD.out; simp; omega, by have := HD.out; omega, hj0, by rw [List.append_assoc, ← List.append_assoc (u'.take j), List.take_append_drop]; exact HTT.out, by rw [List.append_assoc]; exact P1, F.trans F1 (fun _ _ h => h)⟩
      case measure => have := HGK.out; have := HD.out; omega
end Go.Proofs.Ytpdackbcnbhppaa
