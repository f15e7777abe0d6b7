/- What is open, all ended: all walked. -/
import Derived.Test.YtaekdnfpgkfjkaaDoorK1
import Derived.Great.Walk
namespace Go.Proofs.YtaekdnfpgkfjkaaDoor
open Go.RowKit
attribute [local go_sem] Oper.semAt_some

def clsF (L : List Int) : List UInt8 := L.reverse.flatMap encB
theorem clsF_drop {L : List Int} {i : Nat} (h : i < L.length) : clsF (L.drop i) = clsF (L.drop (i + 1)) ++ encB (L.getD i 0) := by
  unfold clsF
  rw [drop_at h, List.reverse_cons, List.flatMap_append, List.flatMap_singleton]
theorem clsF_len : ∀ L : List Int, (clsF L).length ≤ 4 * L.length
  | [] => by simp [clsF]
  | x :: L => by
    have h1 := clsF_len L
    have h2 := encB_len x
    unfold clsF at *
    rw [List.reverse_cons, List.flatMap_append, List.flatMap_singleton, List.length_append, List.length_cons]
    omega

set_option maxRecDepth 100000 in
set_option maxHeartbeats 4000000 in
theorem all_ok {w : World} {ob : Nat} {lv p v : Value} {L : List Int} {out : List UInt8} (h : OpAt w ob lv p v L out) (hl : L.length ≤ 1099511627776) (ho : out.length + 4 * L.length ≤ 70368744177664) :
    Calls Tryd.prog 64 #[.pointer (some ⟨ob, 0, none⟩)] w fun e w' => ∃ p' v', e = .returned (.tuple #[]) ∧ OpAt w' ob (.slice none 0 0) p' v' [] (out ++ clsF L) ∧ (v'.ownBlock = v.ownBlock ∨ ∀ j, v'.ownBlock = some j → w.heap.size ≤ j) ∧ Frm (fun j => j = ob ∨ v.ownBlock = some j) w w' := by
  obtain ⟨A, cap, rfl, hca, hcb, hR⟩ := h.row.val
  obtain ⟨x0, x1, x2, xf, xl⟩ := h.bld.blk.c3
  obtain ⟨n, hn⟩ : ∃ n, L.length = n := ⟨_, rfl⟩
  rw [hn] at x0 h hl hca ho
  have HN := Lib.hid hn
  clear hn
  have hlo : ∀ j, (Value.slice A n cap).ownBlock = some j → ob + 1 ≤ j := fun j e => (h.row.lt j e).1
  have hne0 := h.ne
  go_enter Tryd.func64, Tryd.ntmps64
  go_wp2
  go_loopg [2] n (fun gk iv wr => iv = .int .i64 ((gk : Int) - 1) ∧ gk ≤ n ∧ ∃ p' v', OpAt wr ob (.slice A n cap) p' v' L (out ++ clsF (L.drop gk)) ∧ (v'.ownBlock = v.ownBlock ∨ ∀ j, v'.ownBlock = some j → w.heap.size ≤ j) ∧ Frm (fun j => j = ob ∨ v.ownBlock = some j) w wr)
  case atStart => exact ⟨by go_num, Nat.le_refl _, p, v, by rw [List.drop_eq_nil_of_le (by have := HN.out; omega)]; simpa [clsF] using h, .inl rfl, Frm.refl _ _⟩
  case round =>
    obtain ⟨rfl, hgn, p', v', h', hv', hF⟩ := hrel
    clear x0 x1 x2 xf xl
    rcases gk with _ | i
    · obtain ⟨x0, x1, x2, xf, xl⟩ := h'.bld.blk.c3
      have hput := h'.put (lv' := .slice none 0 0) (L' := []) (Ints.nil _ _ _ _)
      rw [List.drop_zero] at hput
      have HP := Lib.hid hput
      clear hput
      go_wp2
      refine Go.Great.bodyPost_end0 rfl rfl ?_
      exact ⟨p', v', rfl, HP.out.1, hv', hF.trans HP.out.2 (fun _ _ e => .inl e)⟩
    · have hii : (((i + 1 : Nat) : Int) - 1) = (i : Int) := by omega
      rw [hii]
      have hin : i < n := by omega
      have hil : i < L.length := by have := HN.out; omega
      obtain ⟨x0, x1, x2, xf, xl⟩ := h'.bld.blk.c3
      have hRw := (h'.row.rd).at_ hil
      obtain ⟨g, off, rfl, _, hgl, kc⟩ := hRw
      have hA : off = 0 := by
        rcases h'.row.2 with ⟨e, _⟩ | ⟨g', c', cur, e, _⟩
        · cases e
        · injection e with e1 _ _; injection e1 with e1; injection e1
      subst hA
      rw [Nat.zero_add] at kc
      have hcd := clsF_drop hil
      have hcl := clsF_len (L.drop (i + 1))
      rw [List.length_drop] at hcl
      obtain ⟨t, ht⟩ : ∃ t, L.getD i 0 = t := ⟨_, rfl⟩
      rw [ht] at kc hcd
      have HCD := Lib.hid hcd
      clear hcd ht
      have hte := encB_len t
      have hoL : (out ++ clsF (L.drop (i + 1))).length + 4 ≤ 70368744177664 := by rw [List.length_append]; have := HN.out; omega
      have D8 : Bld (wr.drew.alloc (.cells #[.int .i32 t] 21)) (ob + 1) ob 1 106 #[.slice (some ⟨g, 0, none⟩) n cap, p', v'] p' v' (out ++ clsF (L.drop (i + 1))) := h'.bld.frm (((Frm.refl (fun _ => False) wr).drew).alloc _) id (fun _ _ => id)
      go_upto_region 3 with (fail)
      go_region_law (first
        | (go_simp; go_at_call 52; refine (Encode_ok (r := t) (by exact (Blk.new _ _ #[_]).c1.1)).mono ?_; rintro r5 w5 ⟨rfl, rfl⟩)
        | (go_simp; go_at_call 40; refine (WriteString_ok D8 (by have := encode_size_le t; omega) (by simp; omega)).mono ?_; rintro r6 w6 ⟨rfl, v6, D6, F6, hv6⟩))
      all_goals
        have D6 : Bld w6 (ob + 1) ob 1 106 #[.slice (some ⟨g, 0, none⟩) n cap, .pointer (some ⟨ob, 1, none⟩), v6] (.pointer (some ⟨ob, 1, none⟩)) v6 (out ++ clsF (L.drop (i + 1)) ++ encB t) := D6
        rw [List.append_assoc, ← HCD.out] at D6
        have F7 : Frm (fun k => k = ob ∨ v'.ownBlock = some k) wr w6 := (((Frm.refl (fun k => k = ob ∨ v'.ownBlock = some k) wr).drew).alloc _).trans F6 (fun _ _ e => e)
        have hne' := h'.ne
        have O6 : OpAt w6 ob (.slice (some ⟨g, 0, none⟩) n cap) (.pointer (some ⟨ob, 1, none⟩)) v6 L (out ++ clsF (L.drop i)) := ⟨D6, own_frm h'.row F7 (fun j e h2 => by
          rcases h2 with h2 | h2
          · have := hlo _ e; omega
          · exact hne' j e h2)⟩
        have hz : w.heap.size ≤ wr.heap.size := hF.size
        have hv7 : v6.ownBlock = v.ownBlock ∨ ∀ j, v6.ownBlock = some j → w.heap.size ≤ j := by
          rcases hv6 with e | e
          · rw [e]; exact hv'
          · right
            intro j hj
            rw [e] at hj
            injection hj with hj
            rw [World.size_alloc] at hj
            have : wr.drew.heap.size = wr.heap.size := rfl
            omega
        have F8 : Frm (fun j => j = ob ∨ v.ownBlock = some j) w w6 := hF.trans F7 (fun j hj e => by
          rcases e with e | e
          · exact .inl e
          · rcases hv' with h | h
            · right; rw [← h]; exact e
            · have := h j e; omega)
        go_wp2
        go_roundg i
        case rel => exact ⟨by first | rfl | go_num, by omega, _, _, O6, hv7, F8⟩
        case measure => omega
end Go.Proofs.YtaekdnfpgkfjkaaDoor
