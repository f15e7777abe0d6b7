/- Copy, Check and Same by both, their arguments written out. -/
import Derived.Test.YthifeccmbojcdaaH5
import Derived.Test.YthifeccmbojcdaaH3
import Derived.Test.YthifeccmbojcdaaH4
namespace Go.Proofs.Ythifeccmbojcdaa
open Go.RowKit

theorem Copy_n {w : World} {B1 B2 n m c d : Nat} {A C : Option Addr} {pl cs : List Int} {lv so eo : Int} (hn : n = pl.length) (hm : m = cs.length) (h1 : RdInts w B1 .i64 A pl) (h2 : RdInts w B2 .u8 C cs) (hl : n * 8 ≤ 140737488351232) (hl2 : m ≤ 140737488351232) :
    Calls Try.prog 42 #[.agg #[.slice A n c, .slice C m d, .int .i8 lv, .int .u8 so, .int .u8 eo]] w fun r w' => ∃ A6 e6 C6 f6, r = .returned (.agg #[.slice A6 n e6, .slice C6 m f6, .int .i8 lv, .int .u8 so, .int .u8 eo]) ∧
      Ints w' w.heap.size 3 .i64 (.slice A6 n e6) pl ∧ Ints w' w.heap.size 38 .u8 (.slice C6 m f6) cs ∧ Below w.heap.size w w' := by
  refine (Copy_ok (s := ⟨pl, cs, lv, so, eo⟩) hn hm h1 h2 hl hl2).mono ?_
  rintro r w' ⟨pv, cv, rfl, IP, IC, -, hb⟩
  obtain ⟨A6, e6, rfl, -, -, -⟩ := IP.val
  obtain ⟨C6, f6, rfl, -, -, -⟩ := IC.val
  subst hn hm
  exact ⟨A6, e6, C6, f6, rfl, IP, IC, hb⟩

theorem Check_n {w : World} {B B2 n n2 c c2 : Nat} {A A2 : Option Addr} {pl cs : List Int} {lv so eo : Int} (hn : n = pl.length) (hn2 : n2 = cs.length) (h : RdInts w B .i64 A pl) (h2 : RdInts w B2 .u8 A2 cs) (hl : n * 8 ≤ 140737488351232) :
    Calls Try.prog 43 #[.agg #[.slice A n c, .slice A2 n2 c2, .int .i8 lv, .int .u8 so, .int .u8 eo]] w fun r w' => r = .returned (.int .i64 (chkL ⟨pl, cs, lv, so, eo⟩)) ∧ Below w.heap.size w w' :=
  Check_ok (s := ⟨pl, cs, lv, so, eo⟩) hn hn2 h h2 (by omega)
theorem rCheck_n {w : World} {B B2 n n2 c c2 : Nat} {A A2 : Option Addr} {pl cs : List Int} {lv so eo : Int} (hn : n = pl.length) (hn2 : n2 = cs.length) (h : RdInts w B .i64 A pl) (h2 : RdInts w B2 .u8 A2 cs) (hl : n * 8 ≤ 140737488351232) :
    Calls Try.prog 44 #[.agg #[.slice A n c, .slice A2 n2 c2, .int .i8 lv, .int .u8 so, .int .u8 eo]] w fun r w' => r = .returned (.int .i64 (chkL ⟨pl, cs, lv, so, eo⟩)) ∧ Below w.heap.size w w' :=
  rCheck_ok (s := ⟨pl, cs, lv, so, eo⟩) hn hn2 h h2 (by omega)
theorem Same_n {w : World} {B1 B2 B3 B4 n m n' m' c d c' d' : Nat} {A C A' C' : Option Addr} {pl cs pl' cs' : List Int} {lv so eo lv' so' eo' : Int} (hn : n = pl.length) (hm : m = cs.length) (hn' : n' = pl'.length) (hm' : m' = cs'.length)
    (h1 : RdInts w B1 .i64 A pl) (h2 : RdInts w B2 .u8 C cs) (h3 : RdInts w B3 .i64 A' pl') (h4 : RdInts w B4 .u8 C' cs') (hl : n * 8 ≤ 140737488351232) (hl2 : m ≤ 140737488351232) :
    Calls Try.prog 41 #[.agg #[.slice A n c, .slice C m d, .int .i8 lv, .int .u8 so, .int .u8 eo], .agg #[.slice A' n' c', .slice C' m' d', .int .i8 lv', .int .u8 so', .int .u8 eo']] w fun r w' =>
      r = .returned (.bool (sameS ⟨pl, cs, lv, so, eo⟩ ⟨pl', cs', lv', so', eo'⟩)) ∧ Below w.heap.size w w' :=
  Same_ok (s := ⟨pl, cs, lv, so, eo⟩) (t := ⟨pl', cs', lv', so', eo'⟩) hn hm hn' hm' h1 h2 h3 h4 (by omega) (by omega)
theorem rSame_n {w : World} {B1 B2 B3 B4 n m n' m' c d c' d' : Nat} {A C A' C' : Option Addr} {pl cs pl' cs' : List Int} {lv so eo lv' so' eo' : Int} (hn : n = pl.length) (hm : m = cs.length) (hn' : n' = pl'.length) (hm' : m' = cs'.length)
    (h1 : RdInts w B1 .i64 A pl) (h2 : RdInts w B2 .u8 C cs) (h3 : RdInts w B3 .i64 A' pl') (h4 : RdInts w B4 .u8 C' cs') (hl : n * 8 ≤ 140737488351232) (hl2 : m ≤ 140737488351232) :
    Calls Try.prog 45 #[.agg #[.slice A n c, .slice C m d, .int .i8 lv, .int .u8 so, .int .u8 eo], .agg #[.slice A' n' c', .slice C' m' d', .int .i8 lv', .int .u8 so', .int .u8 eo']] w fun r w' =>
      r = .returned (.bool (sameS ⟨pl, cs, lv, so, eo⟩ ⟨pl', cs', lv', so', eo'⟩)) ∧ Below w.heap.size w w' :=
  rSame_ok (s := ⟨pl, cs, lv, so, eo⟩) (t := ⟨pl', cs', lv', so', eo'⟩) hn hm hn' hm' h1 h2 h3 h4 (by omega) (by omega)
theorem sameS_refl (s : Sq) : sameS s s = true := by simp [sameS]
theorem Same_t {w : World} {B1 B2 B3 B4 n m c d c' d' : Nat} {A C A' C' : Option Addr} {pl cs : List Int} {lv so eo : Int} (hn : n = pl.length) (hm : m = cs.length)
    (h1 : RdInts w B1 .i64 A pl) (h2 : RdInts w B2 .u8 C cs) (h3 : RdInts w B3 .i64 A' pl) (h4 : RdInts w B4 .u8 C' cs) (hl : n * 8 ≤ 140737488351232) (hl2 : m ≤ 140737488351232) :
    Calls Try.prog 41 #[.agg #[.slice A n c, .slice C m d, .int .i8 lv, .int .u8 so, .int .u8 eo], .agg #[.slice A' n c', .slice C' m d', .int .i8 lv, .int .u8 so, .int .u8 eo]] w fun r w' => r = .returned (.bool true) ∧ Below w.heap.size w w' := by
  have := Same_n (c := c) (c' := c') (d := d) (d' := d') (lv := lv) (so := so) (eo := eo) (lv' := lv) (so' := so) (eo' := eo) hn hm hn hm h1 h2 h3 h4 hl hl2
  rwa [sameS_refl] at this
theorem rSame_t {w : World} {B1 B2 B3 B4 n m c d c' d' : Nat} {A C A' C' : Option Addr} {pl cs : List Int} {lv so eo : Int} (hn : n = pl.length) (hm : m = cs.length)
    (h1 : RdInts w B1 .i64 A pl) (h2 : RdInts w B2 .u8 C cs) (h3 : RdInts w B3 .i64 A' pl) (h4 : RdInts w B4 .u8 C' cs) (hl : n * 8 ≤ 140737488351232) (hl2 : m ≤ 140737488351232) :
    Calls Try.prog 45 #[.agg #[.slice A n c, .slice C m d, .int .i8 lv, .int .u8 so, .int .u8 eo], .agg #[.slice A' n c', .slice C' m d', .int .i8 lv, .int .u8 so, .int .u8 eo]] w fun r w' => r = .returned (.bool true) ∧ Below w.heap.size w w' := by
  have := rSame_n (c := c) (c' := c') (d := d) (d' := d') (lv := lv) (so := so) (eo := eo) (lv' := lv) (so' := so) (eo' := eo) hn hm hn hm h1 h2 h3 h4 hl hl2
  rwa [sameS_refl] at this
end Go.Proofs.Ythifeccmbojcdaa
