/- Places walked. -/
import Derived.Test.YtaekdnfpgkfjkaaDoorC5
import Derived.Test.YtaekdnfpgkfjkaaDoorC4
import Derived.LoopTactic
namespace Go.Proofs.YtaekdnfpgkfjkaaDoor
open Go.RowKit
attribute [local go_sem] Oper.semAt_some

theorem eiI : ElemI Tryd.prog 43 3 .i64 8 := ElemI.mk' Tryd.underlying43 (by kernel_rfl)
theorem eiR : ElemI Tryd.prog 46 21 .i32 4 := ElemI.mk' Tryd.underlying46 (by kernel_rfl)
theorem eiC : ElemI Tryd.prog 62 22 .u8 1 := ElemI.mk' Tryd.underlying62 (by kernel_rfl)
theorem eiV : ElemI Tryd.prog 33 32 .i8 1 := ElemI.mk' Tryd.underlying33 (by kernel_rfl)

/-- The places of those that are no marks, of the first k. -/
def plT (l : List Ch) : Nat → List Int
  | 0 => []
  | k + 1 => if isM (l.getD k default).r = true then plT l k else plT l k ++ [(k : Int)]
theorem plT_len (l : List Ch) : ∀ k, (plT l k).length ≤ k
  | 0 => Nat.le_refl _
  | k + 1 => by
    have := plT_len l k
    unfold plT
    split
    · omega
    · rw [List.length_append]; simp; omega

set_option maxRecDepth 100000 in
set_option maxHeartbeats 4000000 in
theorem Places_ok {w : World} {s : ByteArray} (hs : s.size ≤ 1099511627776) :
    Calls Tryd.prog 22 #[.string s] w fun r w' => ∃ v, r = .returned v ∧ Ints w' w.heap.size 3 .i64 v (plT (chs s) (chs s).length) ∧ Aft w w' := by
  have hcl := chs_len s
  go_enter Tryd.func22, Tryd.ntmps22
  go_upto_region 4 with (fail)
  obtain ⟨it, hit⟩ : ∃ it, w.heap.size = it := ⟨_, rfl⟩
  have a0 : Aft w (w.iter s 0) := (Aft.refl w).alloc _
  have hI0 : (w.iter s 0).heap[it]? = some (.stringIter s 0) := by rw [← hit]; exact World.iter_heap w s 0
  have hsz0 : it < (w.iter s 0).heap.size := (Array.getElem?_eq_some_iff.1 hI0).1
  rw [hit]
  generalize w.iter s 0 = Wi at *
  have HIT := Lib.hid hit
  clear hit
  go_loopw [3, 4] (fun lv iv wr => ∃ (k p : Nat), iv = .int .i64 k ∧ (∃ dn, chs s = dn ++ chA s p ∧ dn.length = k) ∧ Ints wr (it + 1) 3 .i64 lv (plT (chs s) k) ∧ wr.heap[it]? = some (.stringIter s p) ∧ Aft w wr) (fun _ _ wr => s.size - wr.iterPos it)
  case atStart => exact ⟨0, 0, rfl, ⟨[], rfl, rfl⟩, Ints.nil _ _ _ _, hI0, a0⟩
  case round =>
    obtain ⟨k, p, rfl, ⟨dn, hd1, hdk⟩, I, hI, a1⟩ := hrel
    clear hI0 a0 hsz0
    have hlt : it < wr.heap.size := (Array.getElem?_eq_some_iff.1 hI).1
    have hpl := plT_len (chs s) k
    by_cases hp : p < s.size
    · have hnx : ∀ ty, (Instr.next (.pointer (some ⟨it, 0, none⟩)) true ty).run Tryd.prog wr = _ := fun ty => Lib.run_next_any_at wr it s p ty hI hp
      have hK1 := dec_pos hp
      have hip : wr.iterPos it = p := by simp [World.iterPos, hI]
      have hch := chA_go hp
      have hkl : k < (chs s).length := by rw [hd1, hch]; simp; omega
      have hck : (chs s).getD k default = ⟨(Utf8.decode s p).1, p, (Utf8.decode s p).2⟩ := by
        rw [hd1, hch, List.getD_eq_getElem?_getD, List.getElem?_append_right (by omega), show k - dn.length = 0 by omega]; rfl
      have hdn' : ∃ d', chs s = d' ++ chA s (p + (Utf8.decode s p).2) ∧ d'.length = k + 1 := ⟨dn ++ [⟨(Utf8.decode s p).1, p, (Utf8.decode s p).2⟩], by rw [hd1, hch]; simp, by simp; omega⟩
      have F3 : Frm (fun j => j = it) wr (wr.iterAt it s (p + (Utf8.decode s p).2)) := (Frm.refl (fun j => j = it) wr).iterAt (F := fun j => j = it) rfl s _
      have hI3 := Lib.iterAt_heap wr it s p (p + (Utf8.decode s p).2) hI
      have I3 : Ints (wr.iterAt it s (p + (Utf8.decode s p).2)) (it + 1) 3 .i64 u3 (plT (chs s) k) := I.frm F3 (fun j e => by have := (I.lt j e).1; omega)
      have a3 : Aft w (wr.iterAt it s (p + (Utf8.decode s p).2)) := Lib.below_iterAt a1 (k := it) (by have := HIT.out; omega) s _
      have hs3 : (wr.iterAt it s (p + (Utf8.decode s p).2)).heap.size = wr.heap.size := Lib.iterAt_size _ _ _ _
      have hpT : plT (chs s) (k + 1) = if isM ((Utf8.decode s p).1 : Int) = true then plT (chs s) k else plT (chs s) k ++ [(k : Int)] := by
        conv => lhs; unfold plT
        rw [hck]
      have hIs := fun (W : World) => Is_ok W ((Utf8.decode s p).1 : Int)
      obtain ⟨m, hm⟩ : ∃ m, isM ((Utf8.decode s p).1 : Int) = m := ⟨_, rfl⟩
      rw [hm] at hIs hpT
      have HPT := Lib.hid hpT
      have HDN := Lib.hid hdn'
      clear hm hpT hck hch hd1 hdk hdn' F3 I hI
      rcases m with _ | _
      · go_wp2_with (first
          | (go_at_call 14; refine (hIs _).mono ?_; rintro r5 w5 ⟨rfl, rfl⟩)
          | (at_builtin; go_must (refine wpList_appI eiI rfl rfl rfl (I3.alloc _) rfl (Blk.at_ hs3.symm) ?_ ?_ ?_ ?_)))
        · unfold maxLen; omega
        · omega
        · rw [World.size_alloc]; omega
        intro g cap w8 I8 g8 hg8
        have hlt8 : it < ((wr.iterAt it s (p + (Utf8.decode s p).2)).alloc (.cells #[.int .i64 k] 3)).heap.size := by rw [World.size_alloc]; omega
        have hI8 : w8.heap[it]? = some (.stringIter s (p + (Utf8.decode s p).2)) := (g8.block it hlt8 (fun e => by have := (I3.lt _ e.symm).1; omega)).trans ((Lib.alloc_old _ _ _ (by omega)).trans hI3)
        have a8 : Aft w w8 := (a3.alloc _).grown g8 (fun j e => by have := (I3.lt j e).1; have := HIT.out; omega)
        go_wp2
        go_roundw
        case rel => exact ⟨k + 1, p + (Utf8.decode s p).2, by go_num, HDN.out, by rw [HPT.out]; simpa using I8, hI8, a8⟩
        case measure =>
          have : w8.iterPos it = p + (Utf8.decode s p).2 := by simp [World.iterPos, hI8]
          rw [this, hip]; omega
      · go_wp2_with (go_at_call 14; refine (hIs _).mono ?_; rintro r5 w5 ⟨rfl, rfl⟩)
        go_roundw
        case rel => exact ⟨k + 1, p + (Utf8.decode s p).2, by go_num, HDN.out, by rw [HPT.out]; simpa using I3, hI3, a3⟩
        case measure =>
          have : (wr.iterAt it s (p + (Utf8.decode s p).2)).iterPos it = p + (Utf8.decode s p).2 := by simp [World.iterPos, hI3]
          rw [this, hip]; omega
    · have hnx : ∀ ty, (Instr.next (.pointer (some ⟨it, 0, none⟩)) true ty).run Tryd.prog wr = _ := fun ty => Lib.run_next_end_at wr it s p ty hI hp
      have hke : k = (chs s).length := by rw [hd1, chA_end hp, List.append_nil, hdk]
      have I9 := I.base (B' := w.heap.size) (fun j e => by have := (I.lt j e).1; have := HIT.out; omega)
      rw [hke] at I9
      clear hd1
      go_wp2
      go_ret
      exact ⟨_, rfl, I9, a1⟩
end Go.Proofs.YtaekdnfpgkfjkaaDoor
