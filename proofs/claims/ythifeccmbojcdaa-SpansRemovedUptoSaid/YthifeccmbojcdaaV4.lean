/- Removed characters put in anywhere: what a round of the statement's loops leaves. -/
import Derived.Test.YthifeccmbojcdaaV3
import Derived.Laws.BitsAll
import Derived.Test.YthifeccmbojcdaaH10
namespace Go.Proofs.Ythifeccmbojcdaa
open Go.RowKit

theorem wrap_small (n : Int) (h0 : 0 ≤ n) (h1 : n < 9223372036854775808) : IntKind.i64.wrap n = n := by
  have e : IntKind.i64.bits = 64 := rfl
  unfold IntKind.wrap
  simp only [e]
  have h2 : n % 2 ^ 64 = n := Int.emod_eq_of_lt h0 (by omega)
  rw [h2, if_neg]
  simp
  omega
theorem bits_and_low (z : Int) (j : Nat) (hj : j ≤ 62) : bits .and .i64 z ((2 ^ j - 1 : Nat) : Int) = z % ((2 ^ j : Nat) : Int) := by
  have hp : 2 ^ j ≤ 2 ^ 62 := Nat.pow_le_pow_right (by omega) hj
  have hp0 : 0 < 2 ^ j := Nat.pow_pos (by omega)
  show IntKind.i64.wrap (((BitVec.ofInt 64 z &&& BitVec.ofInt 64 ((2 ^ j - 1 : Nat) : Int)).toNat : Nat) : Int) = _
  rw [BitVec.toNat_and, BitVec.toNat_ofInt, BitVec.ofInt_natCast, BitVec.toNat_ofNat, Nat.mod_eq_of_lt (a := 2 ^ j - 1) (by omega), Nat.and_two_pow_sub_one_eq_mod]
  have hlt : (z % ((2 ^ 64 : Nat) : Int)).toNat % 2 ^ j < 2 ^ j := Nat.mod_lt _ hp0
  rw [wrap_small _ (by omega) (by omega)]
  have hz : 0 ≤ z % ((2 ^ 64 : Nat) : Int) := Int.emod_nonneg _ (by decide)
  rw [Int.natCast_emod, Int.toNat_of_nonneg hz]
  refine Int.emod_emod_of_dvd z ?_
  exact_mod_cast Nat.pow_dvd_pow 2 (show j ≤ 64 by omega)
theorem and3 (z : Int) : bits .and .i64 z 3 = z % 4 := bits_and_low z 2 (by omega)
theorem and3u {z : Int} (h0 : 0 ≤ z) (h1 : z ≤ 255) : bits .and .u8 z 3 = z % 4 := by
  show IntKind.u8.wrap (((BitVec.ofInt 8 z &&& BitVec.ofInt 8 ((2 ^ 2 - 1 : Nat) : Int)).toNat : Nat) : Int) = _
  rw [BitVec.toNat_and, BitVec.toNat_ofInt, BitVec.ofInt_natCast, BitVec.toNat_ofNat, Nat.mod_eq_of_lt (a := 2 ^ 2 - 1) (by omega), Nat.and_two_pow_sub_one_eq_mod]
  have e : IntKind.u8.bits = 8 := rfl
  have hz : z % ((2 ^ 8 : Nat) : Int) = z := Int.emod_eq_of_lt h0 (by omega)
  rw [hz]
  unfold IntKind.wrap
  simp only [e]
  have h2 : ((z.toNat % 2 ^ 2 : Nat) : Int) % 2 ^ 8 = ((z.toNat % 2 ^ 2 : Nat) : Int) := Int.emod_eq_of_lt (by omega) (by omega)
  rw [h2, if_neg (by simp [IntKind.signed])]
  omega

/-- How many removed characters are put in, and which. -/
def kU (pu : List Int) (i : Nat) : Nat := if i < pu.length then (pu.getD i 0 % 4).toNat else 0
def xU (pu : List Int) (i : Nat) : Int := [10, 15, 18, 19].getD ((pu.getD i 0 / 4) % 4).toNat 10
theorem kU_le (pu : List Int) (i : Nat) : kU pu i ≤ 3 := by unfold kU; split <;> omega
theorem xU_rem (pu : List Int) (i : Nat) : remC (xU pu i) = true := by
  unfold xU
  have h : ((pu.getD i 0 / 4) % 4).toNat < 4 := by omega
  generalize ((pu.getD i 0 / 4) % 4).toNat = z at h
  match z, h with
  | 0, _ => rfl
  | 1, _ => rfl
  | 2, _ => rfl
  | 3, _ => rfl

/-- A list, its first places brought over. -/
def partM (f : Int → Int) (l : List Int) (k : Nat) : List Int := (l.take k).map f ++ l.drop k
theorem partM_zero (f : Int → Int) (l : List Int) : partM f l 0 = l := by simp [partM]
theorem partM_all (f : Int → Int) (l : List Int) : partM f l l.length = l.map f := by simp [partM]
theorem partM_len (f : Int → Int) (l : List Int) (k : Nat) : (partM f l k).length = l.length := by simp [partM]; omega
theorem partM_at (f : Int → Int) {l : List Int} {k : Nat} (h : k < l.length) : (partM f l k).getD k 0 = l.getD k 0 := by
  unfold partM
  rw [List.getD_eq_getElem?_getD, List.getElem?_append_right (by simp; omega)]
  simp
  congr 2
  omega
theorem partM_set (f : Int → Int) {l : List Int} {k : Nat} (h : k < l.length) : (partM f l k).set k (f (l.getD k 0)) = partM f l (k + 1) := by
  unfold partM
  rw [List.set_append_right _ _ (by simp; omega)]
  have e : k - ((l.take k).map f).length = 0 := by simp; omega
  rw [e, List.drop_eq_getElem_cons h, List.set_cons_zero, List.take_succ_eq_append_getElem h, List.map_append, List.append_assoc]
  congr 2
  rw [List.getD_eq_getElem?_getD, List.getElem?_eq_getElem h]; rfl

/-- What holds of the first answer while its places are brought over: the sequences from i on are as they were. -/
structure Prog1 (W : World) (D E : Nat) (ov : Value) (ss : List Sq) (i : Nat) (L : List (Sq × Value × Value)) : Prop where
  at_ : SqsAt W D ov L
  len : L.length = ss.length
  old : ∀ j, i ≤ j → (L[j]?).map (·.1) = ss[j]?
  up : ∀ e ∈ L, ∀ b, sqOwn e b → b < E
/-- ... and the first k places of the one at i are brought over. -/
structure Prog2 (W : World) (D E : Nat) (ov : Value) (ss : List Sq) (f : Int → Int) (i : Nat) (s : Sq) (k : Nat) (L : List (Sq × Value × Value)) : Prop where
  at_ : SqsAt W D ov L
  len : L.length = ss.length
  old : ∀ j, i < j → (L[j]?).map (·.1) = ss[j]?
  now : (L[i]?).map (·.1) = some { s with pl := partM f s.pl k }
  up : ∀ e ∈ L, ∀ b, sqOwn e b → b < E

theorem Prog1.start {W : World} {D : Nat} {ov : Value} {ss : List Sq} (h : SqsOwn W D ov ss) : ∃ L, Prog1 W D W.heap.size ov ss 0 L := by
  obtain ⟨L, rfl, h⟩ := h
  exact ⟨L, h, by simp, fun j _ => by rw [List.getElem?_map], fun e he b hb => by
    obtain ⟨h1, h2, _⟩ := h.each e he
    rcases hb with hb | hb
    · exact (h1.lt b hb).2
    · exact (h2.lt b hb).2⟩
theorem Prog1.go {W : World} {D E : Nat} {ov : Value} {ss : List Sq} {i : Nat} {L : List (Sq × Value × Value)} (h : Prog1 W D E ov ss i L) (hi : i < ss.length) (f : Int → Int) : Prog2 W D E ov ss f i (ss.getD i default) 0 L :=
  ⟨h.at_, h.len, fun j hj => h.old j (by omega), by rw [h.old i (Nat.le_refl _), partM_zero, List.getD_eq_getElem?_getD, List.getElem?_eq_getElem hi]; rfl, h.up⟩
theorem Prog2.done {W : World} {D E : Nat} {ov : Value} {ss : List Sq} {i k : Nat} {s : Sq} {f : Int → Int} {L : List (Sq × Value × Value)} (h : Prog2 W D E ov ss f i s k L) : Prog1 W D E ov ss (i + 1) L :=
  ⟨h.at_, h.len, fun j hj => h.old j (by omega), h.up⟩
theorem Prog2.get {W : World} {D E : Nat} {ov : Value} {ss : List Sq} {i k : Nat} {s : Sq} {f : Int → Int} {L : List (Sq × Value × Value)} (h : Prog2 W D E ov ss f i s k L) : ∃ e, L[i]? = some e ∧ e.1 = { s with pl := partM f s.pl k } := by
  obtain ⟨e, h1, h2⟩ := Option.map_eq_some_iff.1 h.now
  exact ⟨e, h1, h2⟩
theorem Prog2.set {W : World} {D E : Nat} {ov : Value} {ss : List Sq} {i k : Nat} {s : Sq} {f : Int → Int} {L : List (Sq × Value × Value)} (h : Prog2 W D E ov ss f i s k L) (hk : k < s.pl.length) {e : Sq × Value × Value} (he : L[i]? = some e) (hs : e.1 = { s with pl := partM f s.pl k })
    {g n c : Nat} (hv : e.2.1 = .slice (some ⟨g, 0, none⟩) n c) : Prog2 (W.setCell ⟨g, k, none⟩ (.int .i64 (f (s.pl.getD k 0)))) D E ov ss f i s (k + 1) (L.set i (Ythifeccmbojcdaa.setPl e k (f (s.pl.getD k 0)))) := by
  have hi := (List.getElem?_eq_some_iff.1 he).1
  refine ⟨h.at_.setPl he hv _, by simp [h.len], fun j hj => ?_, ?_, fun e' he' b hb => ?_⟩
  · rw [List.getElem?_set, if_neg (by omega)]; exact h.old j hj
  · rw [List.getElem?_set, if_pos rfl, if_pos hi]
    simp only [Option.map_some, Ythifeccmbojcdaa.setPl, hs, partM_set f hk]
  · rcases List.mem_or_eq_of_mem_set he' with h1 | h1
    · exact h.up e' h1 b hb
    · subst h1; exact h.up e (List.mem_of_getElem? he) b hb
theorem Prog1.below {W W' : World} {D C E : Nat} {ov : Value} {ss : List Sq} {i : Nat} {L : List (Sq × Value × Value)} (h : Prog1 W D E ov ss i L) (hb : Below C W W') (hC : W.heap.size ≤ C) : Prog1 W' D E ov ss i L := ⟨h.at_.below hb hC, h.len, h.old, h.up⟩
theorem Prog2.below {W W' : World} {D C E : Nat} {ov : Value} {ss : List Sq} {i k : Nat} {s : Sq} {f : Int → Int} {L : List (Sq × Value × Value)} (h : Prog2 W D E ov ss f i s k L) (hb : Below C W W') (hC : W.heap.size ≤ C) : Prog2 W' D E ov ss f i s k L := ⟨h.at_.below hb hC, h.len, h.old, h.now, h.up⟩
theorem SqsAt.drew {W : World} {B : Nat} {ov : Value} {L : List (Sq × Value × Value)} (h : SqsAt W B ov L) : SqsAt W.drew B ov L := ⟨h.row, h.each, h.apart, h.out⟩
theorem Prog2.drew {W : World} {D E : Nat} {ov : Value} {ss : List Sq} {i k : Nat} {s : Sq} {f : Int → Int} {L : List (Sq × Value × Value)} (h : Prog2 W D E ov ss f i s k L) : Prog2 W.drew D E ov ss f i s k L := ⟨h.at_.drew, h.len, h.old, h.now, h.up⟩
theorem SqsAt.frm {W W' : World} {B : Nat} {F : Nat → Prop} {ov : Value} {L : List (Sq × Value × Value)} (h : SqsAt W B ov L) (hF : Frm F W W') (hb : ∀ k, F k → k < B) : SqsAt W' B ov L := by
  have no : ∀ j, B ≤ j → ¬ F j := fun j h1 h2 => by have := hb j h2; omega
  refine ⟨own_frm h.row hF (fun j e => no j (World.ownsRow.lt h.row j e).1), fun e he => ?_, h.apart, h.out⟩
  obtain ⟨h1, h2, h3⟩ := h.each e he
  exact ⟨h1.frm hF (fun j e => no j (h1.lt j e).1), h2.frm hF (fun j e => no j (h2.lt j e).1), h3⟩

/-- A sequence has no more places than there are. -/
theorem out_short {cl nw lv : List Int} {base : Int} {rs : List Rn} (G : RunsGood cl.length cl rs) {nx : Nat → Int} (NG : NxGood rs.length nx) (ld : List Bool) :
    ∀ i, i ≤ rs.length → ∀ s ∈ outT (txtOf cl nw lv base) rs nx ld i, s.pl.length ≤ cl.length ∧ s.cs.length = s.pl.length
  | 0, _, s, hs => by cases hs
  | i + 1, hi, s, hs => by
    unfold outT at hs
    split at hs
    · exact out_short G NG ld i (by omega) s hs
    · rcases List.mem_append.1 hs with hs | hs
      · exact out_short G NG ld i (by omega) s hs
      · rw [List.mem_singleton] at hs
        subst hs
        have h1 := (chT_bound G rfl NG (rs.length - i) i (by omega)).1
        have h2 := flat_length cl ((chT nx (rs.length - i) (i : Int)).map (fun i => rs.getD i default))
        have e : (seqOf (txtOf cl nw lv base) ((chT nx (rs.length - i) (i : Int)).map (fun k => rs.getD k default))).pl = ((chT nx (rs.length - i) (i : Int)).map (fun i => rs.getD i default)).flatMap (runP cl) := rfl
        refine ⟨by rw [e]; omega, ?_⟩
        unfold seqOf sqOf
        exact clsP_length _ _
theorem seqs_short {cl nw lv : List Int} {base : Int} : ∀ s ∈ (seqsL cl nw lv base).1, s.pl.length ≤ cl.length ∧ s.cs.length = s.pl.length := by
  intro s hs
  unfold seqsL at hs
  split at hs
  · cases hs
  · split at hs
    · cases hs
    · exact out_short (runs_good lv cl) (nx_good lv cl) _ _ (Nat.le_refl _) s hs
theorem Ints.kept_by {w w' : World} {B B' : Nat} {e e' : TypeId} {k k' : IntKind} {v v' : Value} {l l' : List Int} (h : Ints w B e k v l) (h' : Ints w B' e' k' v' l') (hne : e' ≠ e) (hg : w.grownBy w' v'.ownBlock) : Ints w' B e k v l := by
  refine h.kept hg ?_
  rcases hv : v.ownBlock with _ | j
  · exact .inl rfl
  · exact .inr (fun e => h.ne_own h' hne j hv e.symm)
/-- The three rows that the statement makes. -/
structure R3 (w : World) (cv vv tv : Value) (LC LV LT : List Int) (W : World) : Prop where
  c : Ints W w.heap.size 38 .u8 cv LC
  v : Ints W w.heap.size 40 .i8 vv LV
  t : Ints W w.heap.size 3 .i64 tv LT
  bel : Below w.heap.size w W
section
variable {w W W' : World} {cv vv tv x : Value} {LC LV LT l : List Int}
theorem R3.size (h : R3 w cv vv tv LC LV LT W) : w.heap.size ≤ W.heap.size := h.bel.size
theorem R3.alloc (h : R3 w cv vv tv LC LV LT W) (o : Obj) : R3 w cv vv tv LC LV LT (W.alloc o) := ⟨h.c.alloc o, h.v.alloc o, h.t.alloc o, h.bel.alloc h.bel.size o⟩
theorem R3.appc (h : R3 w cv vv tv LC LV LT W) (I : Ints W' w.heap.size 38 .u8 x l) (g : W.grownBy W' cv.ownBlock) : R3 w x vv tv l LV LT W' :=
  ⟨I, h.v.kept_by h.c (by decide) g, h.t.kept_by h.c (by decide) g, h.bel.grown g h.bel.size (fun k e => (h.c.lt k e).1)⟩
theorem R3.appv (h : R3 w cv vv tv LC LV LT W) (I : Ints W' w.heap.size 40 .i8 x l) (g : W.grownBy W' vv.ownBlock) : R3 w cv x tv LC l LT W' :=
  ⟨h.c.kept_by h.v (by decide) g, I, h.t.kept_by h.v (by decide) g, h.bel.grown g h.bel.size (fun k e => (h.v.lt k e).1)⟩
theorem R3.appt (h : R3 w cv vv tv LC LV LT W) (I : Ints W' w.heap.size 3 .i64 x l) (g : W.grownBy W' tv.ownBlock) : R3 w cv vv x LC LV l W' :=
  ⟨h.c.kept_by h.t (by decide) g, h.v.kept_by h.t (by decide) g, I, h.bel.grown g h.bel.size (fun k e => (h.t.lt k e).1)⟩
theorem R3.nil (w : World) : R3 w (.slice none 0 0) (.slice none 0 0) (.slice none 0 0) [] [] [] w := ⟨Ints.nil _ _ _ _, Ints.nil _ _ _ _, Ints.nil _ _ _ _, Below.refl _ _⟩
theorem R3.below (h : R3 w cv vv tv LC LV LT W) {C : Nat} (hb : Below C W W') (hC : W.heap.size ≤ C) : R3 w cv vv tv LC LV LT W' :=
  ⟨h.c.below hb hC, h.v.below hb hC, h.t.below hb hC, h.bel.trans (hb.mono (by have := h.size; omega))⟩
end
end Go.Proofs.Ythifeccmbojcdaa
