/- The reference's level runs walked. -/
import Derived.Test.YthifeccmbojcdaaG3
namespace Go.Proofs.Ythifeccmbojcdaa
open Go.RowKit
attribute [local go_sem] Oper.semAt_some

abbrev Gr := List Int × Int × Value
def grCells (e : Gr) : List Value := [e.2.2, .int .i8 e.2.1]
/-- Groups in a row of the call's own, each with its slice. -/
structure GrpAt (W : World) (B : Nat) (v : Value) (L : List Gr) : Prop where
  row : W.ownsRow B 52 2 v L.length (L.flatMap grCells)
  each : ∀ e ∈ L, Ints W B 3 .i64 e.2.2 e.1
  apart : L.Pairwise (fun e e' => ∀ b, e.2.2.ownBlock = some b → e'.2.2.ownBlock ≠ some b)
  out : ∀ e ∈ L, ∀ b, e.2.2.ownBlock = some b → v.ownBlock ≠ some b
theorem GrpAt.nil (W : World) (B : Nat) : GrpAt W B (.slice none 0 0) [] := ⟨World.ownsRow_nil _ _ _ _, by simp, by simp, by simp⟩
theorem GrpAt.below {W W' : World} {B C : Nat} {v : Value} {L : List Gr} (h : GrpAt W B v L) (hb : Below C W W') (hC : W.heap.size ≤ C) : GrpAt W' B v L :=
  ⟨own_frm h.row (Frm.of_below (F := fun _ => False) (hb.mono hC)) (fun _ _ h => h), fun e he => (h.each e he).below hb hC, h.apart, h.out⟩
theorem GrpAt.drew {W : World} {B : Nat} {v : Value} {L : List Gr} (h : GrpAt W B v L) : GrpAt W.drew B v L := ⟨h.row, h.each, h.apart, h.out⟩
theorem gr_length : ∀ L : List Gr, (L.flatMap grCells).length = L.length * 2
  | [] => by simp
  | e :: L => by have := gr_length L; simp [grCells] at *; omega
theorem keep_none {v : Value} {row : Option Nat} (h : ∀ b, v.ownBlock = some b → row ≠ some b) : v.ownBlock = none ∨ v.ownBlock ≠ row := by
  rcases hv : v.ownBlock with _ | b
  · exact .inl rfl
  · right; intro e; exact h b hv e.symm
/-- A new group, of nothing as yet. -/
theorem GrpAt.push {W w3 : World} {B : Nat} {v v' : Value} {L : List Gr} {lg : Int} (h : GrpAt W B v L) {o : Obj} (row : w3.ownsRow B 52 2 v' (L.length + 1) (L.flatMap grCells ++ [.slice none 0 0, .int .i8 lg])) (g3 : (W.alloc o).grownBy w3 v.ownBlock) (hv : v'.ownBlock = v.ownBlock ∨ v'.ownBlock = some (W.heap.size + 1)) :
    GrpAt w3 B v' (L ++ [([], lg, .slice none 0 0)]) := by
  refine ⟨by simpa [grCells] using row, ?_, ?_, ?_⟩
  · intro e he
    rcases List.mem_append.1 he with he | he
    · exact ((h.each e he).alloc o).kept g3 (keep_none (h.out e he))
    · rw [List.mem_singleton] at he; subst he; exact Ints.nil _ _ _ _
  · rw [List.pairwise_append]
    refine ⟨h.apart, by simp, ?_⟩
    intro e he e' he' b hb
    rw [List.mem_singleton] at he'
    subst he'
    simp [Value.ownBlock]
  · intro e he b hb
    rcases List.mem_append.1 he with he | he
    · rcases hv with e3 | e3
      · rw [e3]; exact h.out e he b hb
      · rw [e3]; have := ((h.each e he).lt b hb).2; intro e; have : W.heap.size + 1 = b := by simpa using e
        omega
    · rw [List.mem_singleton] at he; subst he; simp [Value.ownBlock] at hb
/-- The last group grows by one. -/
theorem GrpAt.grow {W w3 : World} {B og n cap g2 n2 cap2 : Nat} {L : List Gr} {g : List Int} {lg x : Int} {gv : Value} (h : GrpAt W B (.slice (some ⟨og, 0, none⟩) n cap) (L ++ [(g, lg, gv)])) {o : Obj}
    (I : Ints w3 B 3 .i64 (.slice (some ⟨g2, 0, none⟩) n2 cap2) (g ++ [x])) (g3 : (W.alloc o).grownBy w3 gv.ownBlock) (hg : gv.ownBlock = some g2 ∨ g2 = W.heap.size + 1) :
    GrpAt (w3.setCell ⟨og, L.length * 2, none⟩ (.slice (some ⟨g2, 0, none⟩) n2 cap2)) B (.slice (some ⟨og, 0, none⟩) n cap) (L ++ [(g ++ [x], lg, .slice (some ⟨g2, 0, none⟩) n2 cap2)]) := by
  have hm : (g, lg, gv) ∈ L ++ [(g, lg, gv)] := by simp
  have hog : gv.ownBlock ≠ some og := fun e => h.out _ hm og e rfl
  have hlo := World.ownsRow.lt h.row og rfl
  have hrow := (World.ownsRow.alloc h.row o).kept g3 (.inr (fun e => hog e.symm))
  have hst := (World.ownsRow.stored (g := og) (n := n) (cap := cap) (by
    have hn : n = (L ++ [(g, lg, gv)]).length := by
      rcases h.row.2 with ⟨h0, _⟩ | ⟨_, _, _, hv, _⟩
      · cases h0
      · injection hv
    rw [← hn] at hrow
    exact hrow) (L.length * 2) (.slice (some ⟨g2, 0, none⟩) n2 cap2)).1
  have hg2 : g2 ≠ og := by
    rcases hg with e | e
    · rintro rfl; exact hog e
    · omega
  have F := (Frm.refl (fun k => k = og) w3).set (b := og) (j := L.length * 2) rfl (.slice (some ⟨g2, 0, none⟩) n2 cap2)
  have hap := List.pairwise_append.1 h.apart
  refine ⟨?_, ?_, ?_, ?_⟩
  · have e : ((L ++ [(g, lg, gv)]).flatMap grCells).set (L.length * 2) (Value.slice (some ⟨g2, 0, none⟩) n2 cap2) = (L ++ [(g ++ [x], lg, Value.slice (some ⟨g2, 0, none⟩) n2 cap2)]).flatMap grCells := by
      have hl := gr_length L
      simp only [List.flatMap_append, List.flatMap_singleton, List.set_append, hl]
      rw [if_neg (by omega), Nat.sub_self]
      rfl
    rw [← e]
    have hn : n = (L ++ [(g, lg, gv)]).length := by
      rcases h.row.2 with ⟨h0, _⟩ | ⟨_, _, _, hv, _⟩
      · cases h0
      · injection hv
    have e2 : (L ++ [(g ++ [x], lg, Value.slice (some ⟨g2, 0, none⟩) n2 cap2)]).length = n := by rw [hn]; simp
    rw [e2]
    exact hst
  · intro e he
    rcases List.mem_append.1 he with he | he
    · have he' : e ∈ L ++ [(g, lg, gv)] := List.mem_append_left _ he
      refine ((((h.each e he').alloc o).kept g3 (keep_none (fun b hb e2 => hap.2.2 e he (g, lg, gv) (by simp) b hb e2))).frm F (fun b hb e2 => h.out e he' b hb (by rw [e2]; rfl)))
    · rw [List.mem_singleton] at he
      subst he
      exact I.frm F (fun b hb e2 => hg2 (by have : g2 = b := by simpa [Value.ownBlock] using hb
                                            rw [this, e2]))
  · rw [List.pairwise_append]
    refine ⟨hap.1, by simp, ?_⟩
    intro e he e' he' b hb
    rw [List.mem_singleton] at he'
    subst he'
    intro e2
    have e2 : g2 = b := by simpa [Value.ownBlock] using e2
    subst e2
    rcases hg with e3 | e3
    · exact hap.2.2 e he (g, lg, gv) (by simp) g2 hb e3
    · have := ((h.each e (List.mem_append_left _ he)).lt g2 hb).2; omega
  · intro e he b hb
    rcases List.mem_append.1 he with he | he
    · exact h.out e (List.mem_append_left _ he) b hb
    · rw [List.mem_singleton] at he
      subst he
      have e2 : g2 = b := by simpa [Value.ownBlock] using hb
      intro e3
      have e3 : og = b := by simpa [Value.ownBlock] using e3
      omega
end Go.Proofs.Ythifeccmbojcdaa
