/- The reference's closing walked. -/
import Derived.Test.YtaekdnfpgkfjkaaDoorK5
namespace Go.Proofs.YtaekdnfpgkfjkaaDoor
open Go.RowKit
attribute [local go_sem] Oper.semAt_some

/-- What is open, as the reference keeps it. -/
def bvL (L : List Int) : List Value := L.map fun x => .bool (x == 8297)
theorem enc36 : txt (encB 8236) = ⟨#[226, 128, 172]⟩ := by decide
theorem enc97 : txt (encB 8297) = ⟨#[226, 129, 169]⟩ := by decide

set_option maxRecDepth 100000 in
set_option maxHeartbeats 4000000 in
theorem closing_ok {w : World} {B n c : Nat} {A : Option Addr} {L : List Int} (hR : Reads w B 1 A L.length (bvL L)) (hO : OpL L) (hn : n = L.length) (hl : n ≤ 1099511627776) :
    Calls Tryd.prog 67 #[.slice A n c] w fun r w' => r = .returned (.string (txt (clsF L))) ∧ w' = w := by
  have HN := Lib.hid hn
  clear hn
  obtain ⟨res, hres⟩ : ∃ x, clsF L = x := ⟨_, rfl⟩
  rw [hres]
  have HRES := Lib.hid hres
  clear hres
  go_enter Tryd.func67, Tryd.ntmps67
  go_wp2
  go_loopg [3, 4] n (fun gk sv iv wr => iv = .int .i64 ((gk : Int) - 1) ∧ gk ≤ n ∧ sv = .string (txt (clsF (L.drop gk))) ∧ wr = w)
  case atStart => exact ⟨by go_num, Nat.le_refl _, by rw [List.drop_eq_nil_of_le (by have := HN.out; omega)]; rfl, rfl⟩
  case round =>
    obtain ⟨rfl, hgn, rfl, rfl⟩ := hrel
    rcases gk with _ | i
    · have h0 : clsF (L.drop 0) = res := by rw [List.drop_zero]; exact HRES.out
      rw [h0]
      go_wp2
      go_ret
      exact ⟨rfl, rfl⟩
    · have hii : (((i + 1 : Nat) : Int) - 1) = (i : Int) := by omega
      rw [hii]
      have hin : i < n := by omega
      have hil : i < L.length := by have := HN.out; omega
      obtain ⟨b, off, rfl, hb, hbs, hc⟩ := hR.2 (by omega)
      have hcd := clsF_drop hil
      have hcl := clsF_len (L.drop (i + 1))
      rw [List.length_drop] at hcl
      have hx := hO _ (getD_mem0 0 hil)
      have hv : (bvL L)[i]? = some (.bool (L.getD i 0 == 8297)) := by
        unfold bvL
        rw [List.getElem?_map, List.getElem?_eq_getElem hil, getD_at 0 hil]; rfl
      have kc := hc i _ hv
      have hz : (txt (clsF (L.drop (i + 1)))).size ≤ 4398046511104 := by rw [txt_size]; have := HN.out; omega
      obtain ⟨x, hxx⟩ : ∃ x, L.getD i 0 = x := ⟨_, rfl⟩
      rw [hxx] at hcd hx kc
      have hcat := txt_cat (clsF (L.drop (i + 1))) (encB x)
      rw [← hcd] at hcat
      clear hcd hxx hv hc hcl
      rcases hx with rfl | rfl
      · rw [enc36] at hcat
        have HC := Lib.hid hcat
        clear hcat
        go_wp2
        rw [HC.out]
        go_roundg i
        case rel => exact ⟨by first | rfl | go_num, by omega, rfl, rfl⟩
        case measure => omega
      · rw [enc97] at hcat
        have HC := Lib.hid hcat
        clear hcat
        go_wp2
        rw [HC.out]
        go_roundg i
        case rel => exact ⟨by first | rfl | go_num, by omega, rfl, rfl⟩
        case measure => omega
end Go.Proofs.YtaekdnfpgkfjkaaDoor
