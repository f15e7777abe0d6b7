/- strings.Builder wherever it lies: copyCheck, WriteString. -/
import Derived.Test.YtaekdnfpgkfjkaaDoorC3
import Derived.Shelf.Strings.BuilderK
import Derived.Lib.Hide
namespace Go.Proofs.YtaekdnfpgkfjkaaDoor
open Go.RowKit
attribute [local go_sem] Oper.semAt_some

/-- append of a string's bytes: whose row it is. -/
theorem run_appStr {P : Program} {w : World} {base : Nat} {t u ty e : TypeId} {i : TypeInfo} (ht : P.underlying t = some (.slice e)) (hu : P.underlying u = some .string) (hi : P.info? e = some i) (hz : i.zero = some (.int .u8 0))
    (hsize : i.size = 1) (hby : i.bytes = 1) {v : Value} {n : Nat} {xs : List Value} (hown : w.ownsRow base e 1 v n xs) (s : ByteArray) (h63 : n + s.size ≤ maxLen) (hbytes : n + s.size ≤ 140737488355328) (hbase : base ≤ w.heap.size) :
    ∃ v' w', (Builtin.append_ #[t, u] ty #[v, .string s]).run P w = .ok v' w' ∧ w'.ownsRow base e 1 v' (n + s.size) (xs ++ Lib.strCells s) ∧ w.grownBy w' v.ownBlock ∧ (v'.ownBlock = v.ownBlock ∨ v'.ownBlock = some w.heap.size) ∧ (v' = .slice none 0 0 ↔ v = .slice none 0 0 ∧ s.size = 0) := by
  obtain ⟨v', w', hr, h1, h2, h3⟩ := Lib.run_append_own_string (P := P) w base t u ty e i ht hu hi hz hsize hby v n xs hown s h63 hbytes hbase
  refine ⟨v', w', hr, h1, h2, ?_, h3⟩
  rcases hown.2 with ⟨rfl, h0⟩ | ⟨g, cap, cur, rfl, hbg, hg, hnc, hcm, hcs, htake⟩
  · by_cases hm : s.size = 0
    · left; rw [h3.2 ⟨rfl, hm⟩]
    · have hr2 := run_append_nil_string (P := P) w t u ty e i (.int .u8 0) ht hu hi hz s (by omega) (by unfold maxLen at h63; omega) (by rw [hby]; omega)
      rw [hr2] at hr
      right
      injection hr with e1 _
      rw [← e1]; rfl
  · by_cases hroom : n + s.size ≤ cap
    · have hcs' : cur.size = cap := by simpa using hcs
      have hr2 := Lib.run_append_room_string (P := P) w t u ty e i ht hu hi hsize g n cap cur hg s hroom (by omega)
      rw [hr2] at hr
      left
      injection hr with e1 _
      rw [← e1]; rfl
    · have hxl : xs.length = n := by simpa using hown.1
      have hr2 := Lib.run_append_grow_string (P := P) w t u ty e i (.int .u8 0) ht hu hi hz ⟨g, 0, none⟩ n cap xs (by rw [hsize]; simpa using hxl) (hown.cells (g := g) rfl) s (by omega) (by unfold maxLen at h63; omega) (by rw [hby]; exact growslice_fits (by omega) (by omega))
      rw [hr2] at hr
      right
      injection hr with e1 _
      rw [← e1]; rfl

/-- A builder at a place of a block. -/
structure Bld (w : World) (B b o : Nat) (T : TypeId) (cs : Array Value) (p v : Value) (l : List UInt8) : Prop where
  blk : Blk w b T cs
  hp : cs[o]? = some p
  hv : cs[o + 1]? = some v
  pk : p = .pointer none ∨ p = .pointer (some ⟨b, o, none⟩)
  own : w.ownsRow B 5 1 v l.length (Lib.byteCells l)
  ne : v.ownBlock ≠ some b
  nl : l = [] → v = .slice none 0 0
  lies : liesAt Tryd.prog Tryd.prog.depth T (cs.size / Tryd.prog.cellsOf T) o 73 1 = true

theorem Blk.shape {w : World} {g : Nat} {t : TypeId} {cs : Array Value} (h : Blk w g t cs) : w.shape? g = some (t, cs.size) := by
  unfold Blk at h
  simp [World.shape?, h]

set_option maxRecDepth 100000 in
set_option maxHeartbeats 1000000 in
theorem copyCheck_ok {w : World} {B b o : Nat} {T : TypeId} {cs : Array Value} {p v : Value} {l : List UInt8} (h : Bld w B b o T cs p v l) :
    Calls Tryd.prog 58 #[.pointer (some ⟨b, o, none⟩)] w fun r w' => r = .returned (.tuple #[]) ∧ (w' = w ∧ p = .pointer (some ⟨b, o, none⟩) ∨ w' = w.setCell ⟨b, o, none⟩ (.pointer (some ⟨b, o, none⟩))) := by
  obtain ⟨j, hj, hjs⟩ := Option.map_eq_some_iff.1 (show (Tryd.prog.info? 73).map (·.size) = some 2 by kernel_rfl)
  have hc := h.blk.cell (i := o)
  have hf := h.blk.frozen
  have hl := h.blk.lt
  have ho : o < cs.size := (Array.getElem?_eq_some_iff.1 h.hp).1
  rw [h.hp] at hc
  have hsh := h.blk.shape
  rcases h.pk with hp | hp
  all_goals rw [hp] at hc
  · go_enter Tryd.func58, Tryd.ntmps58
    go_wp2
    rw [Lib.run_to_unsafe w ⟨b, o, none⟩ Tryd.underlying70 Tryd.underlying111 hj (by rw [hjs]; decide) hsh ho]
    simp only [Result.andThen]
    rw [Oper.upon_value]
    go_wp2
    rw [run_callFunc_extern Tryd.func70 (by kernel_rfl) (by kernel_rfl) (by kernel_rfl) (e := Extern.AbiNoEscape.same) (by kernel_rfl)]
    rw [Lib.run_noEscape]
    simp only [Result.andThen]
    rw [Oper.upon_value]
    go_wp2
    rw [Lib.run_from_unsafe w ⟨b, o, none⟩ Tryd.underlying111 Tryd.underlying70 hj hsh h.lies]
    simp only [Result.andThen]
    rw [Oper.upon_value]
    go_wp2
    go_end0
    exact ⟨rfl, .inr rfl⟩
  · go_enter Tryd.func58, Tryd.ntmps58
    go_wp2
    rw [Lib.run_neq_ptr_same w _ Tryd.underlying70 hj]
    go_wp2
    go_end0
    exact ⟨rfl, .inl ⟨rfl, hp⟩⟩

theorem wpList_appStr {P : Program} {w : World} {ops : Array Oper} {rest : List Oper} {o : Oper} {a : Act} {Q : Exit → Act → World → Prop} {t u e : TypeId} {i : TypeInfo} {sl x : Operand} (hgd : o.guard = none)
    (ho : o.op = .call { callee := .builtin .append, args := #[sl, x], argTypes := #[t, u] }) (ht : P.underlying t = some (.slice e)) (hu : P.underlying u = some .string) (hi : P.info? e = some i) (hz : i.zero = some (.int .u8 0))
    (hsize : i.size = 1) (hby : i.bytes = 1) {base : Nat} {v : Value} {n : Nat} {xs : List Value} (hs : a.eval sl = v) (hown : w.ownsRow base e 1 v n xs) {s : ByteArray} (hx : a.eval x = .string s)
    (h63 : n + s.size ≤ maxLen) (hbytes : n + s.size ≤ 140737488355328) (hbase : base ≤ w.heap.size)
    (h : ∀ v' w', w'.ownsRow base e 1 v' (n + s.size) (xs ++ Lib.strCells s) → w.grownBy w' v.ownBlock → (v'.ownBlock = v.ownBlock ∨ v'.ownBlock = some w.heap.size) → (v' = .slice none 0 0 ↔ v = .slice none 0 0 ∧ s.size = 0) → wpList P ops Q rest (a.put o.dst v') w') : wpList P ops Q (o :: rest) a w := by
  refine wpList_plain hgd fun K hK => ?_
  obtain ⟨v', w', hr, h2, h3, h4, h5⟩ := run_appStr (P := P) (ty := o.type) ht hu hi hz hsize hby hown s h63 hbytes hbase
  unfold Oper.wp execOp
  simp only [ho, resolve, invoke, builtin, Sem.run_bind, Sem.run_pure, Result.andThen_ok, List.map_toArray, List.map_cons, List.map_nil, hs, hx, hr]
  exact hK _ _ (h v' w' h2 h3 h4 h5)

theorem row_shape {W : World} {B size n : Nat} {e : TypeId} {v : Value} {xs : List Value} (h : W.ownsRow B e size v n xs) : ∃ A c, v = .slice A n c := by
  rcases h.2 with ⟨rfl, h0⟩ | ⟨g, cap, cur, rfl, _⟩
  · subst h0; exact ⟨_, _, rfl⟩
  · exact ⟨_, _, rfl⟩
set_option maxRecDepth 100000 in
set_option maxHeartbeats 1000000 in
theorem WriteString_ok {w : World} {B b o : Nat} {T : TypeId} {cs : Array Value} {p v : Value} {l : List UInt8} {s : ByteArray} (h : Bld w B b o T cs p v l) (hlen : l.length + s.size ≤ 140737488355328) (hB : B ≤ w.heap.size) :
    Calls Tryd.prog 40 #[.pointer (some ⟨b, o, none⟩), .string s] w fun r w' => r = .returned (.tuple #[.int .i64 s.size, .nilIface]) ∧
      ∃ v', Bld w' B b o T ((cs.setIfInBounds o (.pointer (some ⟨b, o, none⟩))).setIfInBounds (o + 1) v') (.pointer (some ⟨b, o, none⟩)) v' (l ++ s.data.toList) ∧ Frm (fun k => k = b ∨ v.ownBlock = some k) w w' ∧ (v'.ownBlock = v.ownBlock ∨ v'.ownBlock = some w.heap.size) := by
  obtain ⟨i0, hi, hz0, hz1, hz2⟩ := info_parts (show (Tryd.prog.info? 5).map (fun i => (i.zero, i.size, i.bytes)) = some (some (.int .u8 0), 1, 1) by kernel_rfl)
  have ho1 : o + 1 < cs.size := (Array.getElem?_eq_some_iff.1 h.hv).1
  have hcc := copyCheck_ok h
  go_enter Tryd.func40, Tryd.ntmps40
  go_wp2_with (go_at_call 58; refine hcc.mono ?_)
  rintro r w1 ⟨rfl, hw1⟩
  obtain ⟨B1, F1⟩ : Bld w1 B b o T (cs.setIfInBounds o (.pointer (some ⟨b, o, none⟩))) (.pointer (some ⟨b, o, none⟩)) v l ∧ Frm (fun k => k = b) w w1 := by
    rcases hw1 with ⟨rfl, hp⟩ | rfl
    · have e : cs.setIfInBounds o (.pointer (some ⟨b, o, none⟩)) = cs := by
        rw [← hp]
        refine Array.ext (by simp) fun k hk1 hk2 => ?_
        rw [Array.getElem_setIfInBounds (by simpa using hk2)]
        split
        · rename_i e
          subst e
          have := h.hp
          rw [Array.getElem?_eq_getElem hk2] at this
          injection this with this
          exact this.symm
        · rfl
      rw [e]
      exact ⟨⟨h.blk, by rw [h.hp, hp], h.hv, .inr rfl, h.own, h.ne, h.nl, h.lies⟩, Frm.refl _ _⟩
    · have F := (Frm.refl (fun k => k = b) w).set (b := b) (j := o) rfl (.pointer (some ⟨b, o, none⟩))
      refine ⟨⟨h.blk.set_ o _, ?_, ?_, .inr rfl, own_frm h.own F (fun i hi e => h.ne (by rw [hi, e])), h.ne, h.nl, by simpa using h.lies⟩, F⟩
      · rw [Array.getElem?_setIfInBounds_self_of_lt (by omega)]
      · rw [Array.getElem?_setIfInBounds_ne (by omega)]; exact h.hv
  have hs1 : w.heap.size ≤ w1.heap.size := F1.size
  have hsz : w1 = w ∨ w1 = w.setCell ⟨b, o, none⟩ (.pointer (some ⟨b, o, none⟩)) := hw1.imp (fun h => h.1) id
  clear hcc hw1
  obtain ⟨A, c, rfl⟩ := row_shape B1.own
  have c1 := B1.blk.cell (i := o + 1)
  rw [B1.hv] at c1
  have f1 := B1.blk.frozen
  have l1 := B1.blk.lt
  go_wp2_with (at_builtin; go_must (refine wpList_appStr (i := i0) rfl rfl Tryd.underlying71 Tryd.underlying9 hi hz0 hz1 hz2 rfl B1.own rfl ?_ ?_ ?_ ?_))
  · unfold maxLen; omega
  · exact hlen
  · omega
  intro v' w2 own2 g2 hv' hnil
  have HNIL := Lib.hid hnil
  clear hnil
  have B2 := B1.blk.grown g2 (fun e => B1.ne e.symm)
  obtain ⟨A', c', hvs⟩ := row_shape own2
  subst hvs
  have c2 := B2.cell (i := o + 1)
  rw [B1.hv] at c2
  have f2 := B2.frozen
  have l2 := B2.lt
  go_wp2
  go_ret2
  have F3 := (Frm.refl (fun k => k = b) w2).set (b := b) (j := o + 1) rfl (.slice A' (l.length + s.size) c')
  have hne : (Value.slice A' (l.length + s.size) c').ownBlock ≠ some b := by
    rcases hv' with e | e
    · rw [e]; exact B1.ne
    · rw [e]; intro e2; injection e2 with e2; omega
  refine ⟨rfl, _, ⟨B2.set_ (o + 1) _, ?_, ?_, .inr rfl, ?_, hne, fun h0 => ?_, by simpa using h.lies⟩, ?_, ?_⟩
  · rw [Array.getElem?_setIfInBounds_ne (by omega)]; exact B1.hp
  · rw [Array.getElem?_setIfInBounds_self_of_lt (by simpa using ho1)]
  · have e1 : (l ++ s.data.toList).length = l.length + s.size := by rw [List.length_append]; rfl
    have e2 : Lib.byteCells (l ++ s.data.toList) = Lib.byteCells l ++ Lib.strCells s := by rw [Lib.byteCells_append, Lib.strCells_eq]
    rw [e1, e2]
    exact own_frm own2 F3 (fun i hi e => hne (by rw [hi, e]))
  · obtain ⟨h1, h2⟩ := List.append_eq_nil_iff.1 h0
    have hs0 : s = ByteArray.empty := by
      have : s.data = #[] := by simpa using h2
      cases s
      simp only at this
      rw [this]; rfl
    have hn := B1.nl h1
    injection hn with e1 e2 e3
    exact HNIL.out.2 ⟨⟨e1, h1, e3⟩, hs0⟩
  · refine ((F1.mono (F' := fun k => k = b ∨ (Value.slice A l.length c).ownBlock = some k) (fun _ _ e => .inl e)).grown g2 (fun k e _ => .inr e)).set (b := b) (j := o + 1) (.inl rfl) _
  · rcases hv' with e | e
    · exact .inl e
    · right
      rw [e]
      have : w1.heap.size = w.heap.size := by rcases hsz with e | e <;> rw [e]; simp
      rw [this]
end Go.Proofs.YtaekdnfpgkfjkaaDoor
