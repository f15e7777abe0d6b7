/- The marks: class, Is, by both. -/
import Derived.Test.YtaekdnfpgkfjkaaDoorC2
namespace Go.Proofs.YtaekdnfpgkfjkaaDoor
open Go.RowKit
attribute [local go_sem] Oper.semAt_some

/-- The class that a mark must have; 0: none. -/
def clsM (r : Int) : Int := if r = 1564 then 3 else if r = 8206 then 1 else if r = 8207 then 2 else if r = 8234 then 15 else if r = 8235 then 17 else if r = 8236 then 19 else if r = 8237 then 16 else if r = 8238 then 18 else if r = 8294 then 20 else if r = 8295 then 21 else if r = 8296 then 22 else if r = 8297 then 23 else 0
def isM (r : Int) : Bool := clsM r != 0

set_option maxRecDepth 100000 in
set_option maxHeartbeats 1000000 in
theorem class_ok (w : World) (r : Int) : Calls Tryd.prog 33 #[.int .i32 r] w fun e w' => e = .returned (.int .u8 (clsM r)) ∧ w = w' := by
  go_enter Tryd.func33, Tryd.ntmps33
  go_wp2
  all_goals (go_ret; refine ⟨?_, rfl⟩; unfold clsM; simp_all)

set_option maxRecDepth 100000 in
set_option maxHeartbeats 1000000 in
theorem Is_ok (w : World) (r : Int) : Calls Tryd.prog 14 #[.int .i32 r] w fun e w' => e = .returned (.bool (isM r)) ∧ w = w' := by
  have hc := fun (W : World) => class_ok W r
  unfold isM
  generalize clsM r = c at *
  go_enter Tryd.func14, Tryd.ntmps14
  go_wp2_with (go_at_call 33; refine (hc _).mono ?_; rintro r1 w1 ⟨rfl, rfl⟩)
  go_ret
  exact ⟨rfl, rfl⟩

def mkL : List Int := [1564, 8206, 8207, 8234, 8235, 8236, 8237, 8238, 8294, 8295, 8296, 8297]
def mkC : List Int := [3, 1, 2, 15, 17, 19, 16, 18, 20, 21, 22, 23]
theorem isM_mem (r : Int) : isM r = true ↔ r ∈ mkL := by
  unfold isM clsM mkL
  simp only [List.mem_cons, List.not_mem_nil, or_false]
  (repeat' split) <;> simp_all

set_option maxRecDepth 100000 in
set_option maxHeartbeats 1000000 in
theorem rmarks_ok (w : World) : Calls Tryd.prog 34 #[] w fun e w' => ∃ g g2 : Nat, e = .returned (.tuple #[.slice (some ⟨g, 0, none⟩) 12 12, .slice (some ⟨g2, 0, none⟩) 12 12]) ∧ Blk w' g 21 (mkL.map (.int .i32)).toArray ∧ Blk w' g2 22 (mkC.map (.int .u8)).toArray ∧ Aft w w' := by
  go_enter Tryd.func34, Tryd.ntmps34
  go_wp2
  go_ret2
  have e1 : (mkL.map (Value.int .i32)).toArray = #[.int .i32 1564, .int .i32 8206, .int .i32 8207, .int .i32 8234, .int .i32 8235, .int .i32 8236, .int .i32 8237, .int .i32 8238, .int .i32 8294, .int .i32 8295, .int .i32 8296, .int .i32 8297] := rfl
  have e2 : (mkC.map (Value.int .u8)).toArray = #[.int .u8 3, .int .u8 1, .int .u8 2, .int .u8 15, .int .u8 17, .int .u8 19, .int .u8 16, .int .u8 18, .int .u8 20, .int .u8 21, .int .u8 22, .int .u8 23] := rfl
  rw [e1, e2]
  have h2 := Blk.new (w.alloc (.cells #[.int .i32 1564, .int .i32 8206, .int .i32 8207, .int .i32 8234, .int .i32 8235, .int .i32 8236, .int .i32 8237, .int .i32 8238, .int .i32 8294, .int .i32 8295, .int .i32 8296, .int .i32 8297] 21)) 22 #[.int .u8 3, .int .u8 1, .int .u8 2, .int .u8 15, .int .u8 17, .int .u8 19, .int .u8 16, .int .u8 18, .int .u8 20, .int .u8 21, .int .u8 22, .int .u8 23]
  rw [World.size_alloc] at h2
  exact ⟨_, _, rfl, (Blk.new w 21 _).alloc _, h2, ((Aft.refl w).alloc _).alloc _⟩

theorem rd_lit {w : World} {g : Nat} {t : TypeId} {k : IntKind} {l : List Int} (h : Blk w g t (l.map (.int k)).toArray) : RdInts w w.heap.size k (some ⟨g, 0, none⟩) l := by
  have := Reads.blk (n := l.length) (size := 1) h (by simp)
  simpa [RdInts] using this

theorem getD_mem0 {α : Type} (d : α) {l : List α} {i : Nat} (h : i < l.length) : l.getD i d ∈ l := by
  rw [List.getD_eq_getElem?_getD, List.getElem?_eq_getElem h]; exact List.getElem_mem h

set_option maxRecDepth 100000 in
set_option maxHeartbeats 1000000 in
theorem rIs_ok (w : World) (r : Int) : Calls Tryd.prog 15 #[.int .i32 r] w fun e w' => e = .returned (.bool (isM r)) ∧ Aft w w' := by
  have HM := Lib.hid (isM_mem r)
  have hlen : mkL.length = 12 := rfl
  generalize isM r = m at *
  go_enter Tryd.func15, Tryd.ntmps15
  go_wp2_with (go_at_call 34; refine (rmarks_ok _).mono ?_; rintro r1 w1 ⟨g, g2, rfl, B1, -, a1⟩)
  have R1 := rd_lit B1
  clear B1
  generalize mkL = l at *
  have HL := Lib.hid hlen
  clear hlen
  go_loopg [5] 12 (fun gk iv wr => ∃ i : Nat, i + gk = 12 ∧ iv = .int .i64 i ∧ (∀ j, j < i → l.getD j 0 ≠ r) ∧ wr = w1)
  case atStart => exact ⟨0, by omega, rfl, by omega, rfl⟩
  case round =>
    obtain ⟨i, hi, rfl, hno, rfl⟩ := hrel
    have HI := Lib.hid hi
    have HNO := Lib.hid hno
    clear hi hno
    by_cases hlt : i < 12
    · obtain ⟨b, off, e1, _, _, kc⟩ := R1.at_ (i := i) (by have := HL.out; omega)
      cases e1
      rw [Nat.zero_add] at kc
      obtain ⟨x, hx⟩ : ∃ x, l.getD i 0 = x := ⟨_, rfl⟩
      rw [hx] at kc
      rcases heq : (x == r) with _ | _
      · have hno2 : ∀ j, j < i + 1 → l.getD j 0 ≠ r := fun j hj => by
          rcases Nat.lt_or_ge j i with h1 | h1
          · exact HNO.out j h1
          · have : j = i := by omega
            subst this
            rw [hx]; simpa using heq
        have HNO2 := Lib.hid hno2
        clear hno2 hx
        go_wp2
        go_roundg (12 - (i + 1))
        case rel => exact ⟨i + 1, by have := HI.out; omega, by go_num, HNO2.out, rfl⟩
        case measure => have := HI.out; omega
      · have hm : m = true := by
          rw [HM.out, ← (by simpa using heq : x = r), ← hx]
          exact getD_mem0 _ (by have := HL.out; omega)
        subst hm
        clear hx
        go_wp2
        go_ret
        exact ⟨rfl, a1⟩
    · have hm : m = false := by
        rcases m with _ | _
        · rfl
        · obtain ⟨j, hj, e⟩ := List.mem_iff_getElem.1 (HM.out.1 rfl)
          exfalso
          refine HNO.out j (by have := HL.out; have := HI.out; omega) ?_
          rw [List.getD_eq_getElem?_getD, List.getElem?_eq_getElem hj]; exact e
      subst hm
      have hie : i = 12 := by have := HI.out; omega
      subst hie
      go_wp2
      go_ret
      exact ⟨rfl, a1⟩
end Go.Proofs.YtaekdnfpgkfjkaaDoor
