/- A region that draws its order: reads, ONE call, variables that are made for its answers and the stores into them. -/
import Derived.Test.YtaekdnfpgkfjkaaDoorD2
namespace Go.Proofs.YtaekdnfpgkfjkaaDoor
open Go.RowKit

/-- A variable that the region makes: the operation that makes it, the one that stores into it, its type, its cells at first and at last. -/
structure VarV where
  a : Nat
  st : Nat
  t : TypeId
  z : Array Value
  g : Value → Array Value
def isVar (vars : List VarV) (W : World) (k : Nat) : Prop := ∃ m ∈ vars, Blk W k m.t m.z

def varJ (w : World) (c : Nat) (vars : List VarV) (R : Value → Prop) (T : Value → World → Prop) (f : Nat → Bool) (ρ : Nat → Value) (W : World) : Prop :=
  Aft w W ∧ (f c = true → R (ρ c) ∧ ∀ W', Frm (fun k => ∃ m ∈ vars, f m.a = true ∧ ρ m.a = .pointer (some ⟨k, 0, none⟩)) W W' → T (ρ c) W') ∧
  (∀ m ∈ vars, f m.a = true → ∃ q, ρ m.a = .pointer (some ⟨q, 0, none⟩) ∧ w.heap.size ≤ q ∧ Blk W q m.t (if f m.st then m.g (ρ c) else m.z)) ∧
  (∀ m ∈ vars, ∀ m' ∈ vars, m.a ≠ m'.a → f m.a = true → f m'.a = true → ρ m.a ≠ ρ m'.a)

/-- What is to be shown of an operation. Its kind: 0 a reading, 1 the call, 2 it makes a variable, 3 it stores into one. -/
def varO (P : Program) (w : World) (c : Nat) (vars : List VarV) (R : Value → Prop) (T : Value → World → Prop) (fr : (Nat → Value) → Act) (o : Oper) (i : Nat) (k : Nat × Nat) (u : Option Nat) (x : Vl) : Prop :=
  match k with
  | (0, _) => ∀ ρ W, Aft w W → (u = some c → R (ρ c)) → (execOp (fr ρ).eval o).run P W = .ok (.value (valV ρ x)) W
  | (1, _) => (∀ ρ, valV ρ x = ρ i) ∧ ∀ ρ W, Aft w W → ∃ fn args, (execOp (fr ρ).eval o).run P W = .ok (.enter fn args) W ∧ Calls P fn args W fun r W1 => ∃ v, r = .returned v ∧ R v ∧ Aft W W1 ∧ ∀ W', Frm (fun k => w.heap.size ≤ k ∧ k < W.heap.size ∧ isVar vars W1 k) W1 W' → T v W'
  | (2, m) => (∀ ρ, valV ρ x = ρ i) ∧ match vars[m]? with
    | some mv => ∀ ρ W, (execOp (fr ρ).eval o).run P W = .ok (.value (.pointer (some ⟨W.heap.size, 0, none⟩))) (W.alloc (.cells mv.z mv.t))
    | none => False
  | (3, m) => match vars[m]? with
    | some mv => ∀ ρ W q, ρ mv.a = .pointer (some ⟨q, 0, none⟩) → R (ρ c) → Blk W q mv.t mv.z → ∃ W', (execOp (fr ρ).eval o).run P W = .ok .skip W' ∧ Blk W' q mv.t (mv.g (ρ c)) ∧ Frm (fun k => k = q) W W'
    | none => False
  | _ => False

/-- The plan fits. -/
def kindB (l : List Oper) (U : List (Option Nat)) (c : Nat) (av : List (Nat × Nat)) (K : List (Nat × Nat)) : Bool :=
  U.length == l.length && K.length == l.length && K[c]? == some (1, 0) && U[c]? == some (some c) && decide (av.map (·.1)).Nodup &&
  (List.range l.length).all (fun i => match K[i]?, l[i]?, U[i]? with
    | some (0, _), some _, some u => u != some i && i != c && av.all fun m => m.1 != i && m.2 != i
    | some (1, _), some _, some _ => i == c
    | some (2, m), some _, some u => u == some i && i != c && (match av[m]? with | some x => x.1 == i | none => false) && av.all fun m => m.2 != i
    | some (3, m), some o, some u => u == some c && i != c && o.dst.isNone && (match av[m]? with | some x => x.2 == i && depOn o x.1 | none => false) && av.all fun m => m.1 != i
    | _, _, _ => false) &&
  (List.range av.length).all (fun m => match av[m]? with | some x => K[x.1]? == some (2, m) && K[x.2]? == some (3, m) | none => false)

def varL (P : Program) (w : World) (c : Nat) (vars : List VarV) (R : Value → Prop) (T : Value → World → Prop) (a0 : Act) (fin : (Nat → Value) → Act) : Nat → List Oper → List (Nat × Nat) → List (Option Nat) → List Vl → List Bool → Prop
  | i, o :: l, k :: K, u :: U, x :: vs, e :: E => varO P w c vars R T (if e then fun _ => a0 else fin) o i k u x ∧ varL P w c vars R T a0 fin (i + 1) l K U vs E
  | i, o :: l, k :: K, u :: U, x :: vs, [] => varO P w c vars R T fin o i k u x ∧ varL P w c vars R T a0 fin (i + 1) l K U vs []
  | _, _, _, _, _, _ => True

theorem varL_at {P : Program} {w : World} {c : Nat} {vars : List VarV} {R : Value → Prop} {T : Value → World → Prop} {a0 : Act} {fin : (Nat → Value) → Act} :
    ∀ {n : Nat} {l : List Oper} {K : List (Nat × Nat)} {U : List (Option Nat)} {vs : List Vl} {E : List Bool}, varL P w c vars R T a0 fin n l K U vs E →
      ∀ (i : Nat) (o : Oper) (k : Nat × Nat) (u : Option Nat) (x : Vl), l[i]? = some o → K[i]? = some k → U[i]? = some u → vs[i]? = some x → varO P w c vars R T (fun ρ => if E.getD i false then a0 else fin ρ) o (n + i) k u x
  | _, [], _, _, _, _, _, i, o, k, u, x, h, _, _, _ => by simp at h
  | _, _ :: _, [], _, _, _, _, i, o, k, u, x, _, h, _, _ => by simp at h
  | _, _ :: _, _ :: _, [], _, _, _, i, o, k, u, x, _, _, h, _ => by simp at h
  | _, _ :: _, _ :: _, _ :: _, [], _, _, i, o, k, u, x, _, _, _, h => by simp at h
  | n, o' :: l, k' :: K, u' :: U, x' :: vs, e :: E, h, 0, o, k, u, x, h1, h2, h3, h4 => by
    have e1 : o' = o := by simpa using h1
    have e2 : k' = k := by simpa using h2
    have e3 : u' = u := by simpa using h3
    have e4 : x' = x := by simpa using h4
    subst e1 e2 e3 e4
    have := h.1
    cases e
    · exact this
    · exact this
  | n, o' :: l, k' :: K, u' :: U, x' :: vs, [], h, 0, o, k, u, x, h1, h2, h3, h4 => by
    have e1 : o' = o := by simpa using h1
    have e2 : k' = k := by simpa using h2
    have e3 : u' = u := by simpa using h3
    have e4 : x' = x := by simpa using h4
    subst e1 e2 e3 e4
    exact h.1
  | n, o' :: l, k' :: K, u' :: U, x' :: vs, e :: E, h, i + 1, o, k, u, x, h1, h2, h3, h4 => by
    have := varL_at h.2 i o k u x (by simpa using h1) (by simpa using h2) (by simpa using h3) (by simpa using h4)
    rw [Nat.add_assoc, Nat.add_comm 1 i] at this
    exact this
  | n, o' :: l, k' :: K, u' :: U, x' :: vs, [], h, i + 1, o, k, u, x, h1, h2, h3, h4 => by
    have := varL_at h.2 i o k u x (by simpa using h1) (by simpa using h2) (by simpa using h3) (by simpa using h4)
    rw [Nat.add_assoc, Nat.add_comm 1 i] at this
    exact this

theorem putAll_at {t : Tmp} : ∀ (l : List Oper) (vs : List Value) (a : Act) (i : Nat) (o : Oper) (v : Value), l[i]? = some o → o.dst = some t → vs[i]? = some v →
    (∀ (j : Nat) (o' : Oper), l[j]? = some o' → o'.dst = some t → j = i) → t < a.tmps.size → (putAll l vs a).tmps[t]? = some v
  | [], _, _, i, _, _, h, _, _, _, _ => by simp at h
  | _ :: _, [], _, i, _, _, _, _, h, _, _ => by simp at h
  | o' :: l, v' :: vs, a, 0, o, v, h1, h2, h3, h4, h5 => by
    have e1 : o' = o := by simpa using h1
    have e3 : v' = v := by simpa using h3
    subst e1 e3
    unfold putAll
    rw [putAll_other]
    · rw [h2]; simp [Act.put, h5]
    · intro o2 ho2 hd
      obtain ⟨j, hj, rfl⟩ := List.mem_iff_getElem.1 ho2
      have := h4 (j + 1) l[j] (by simp [hj]) hd
      omega
  | o' :: l, v' :: vs, a, i + 1, o, v, h1, h2, h3, h4, h5 => by
    unfold putAll
    refine putAll_at l vs _ i o v (by simpa using h1) h2 (by simpa using h3) (fun j o2 hj hd => ?_) (by rw [put_size]; exact h5)
    have := h4 (j + 1) o2 (by simpa using hj) hd
    omega

theorem inj_of_nodup : ∀ {vars : List VarV}, (vars.map VarV.a).Nodup → ∀ m ∈ vars, ∀ m' ∈ vars, m.a = m'.a → m = m'
  | [], _, m, hm, _, _, _ => by cases hm
  | x :: vars, h, m, hm, m', hm', e => by
    rw [List.map_cons, List.nodup_cons] at h
    rcases List.mem_cons.1 hm with rfl | h1
    · rcases List.mem_cons.1 hm' with rfl | h2
      · rfl
      · exact absurd (List.mem_map.2 ⟨m', h2, e.symm⟩) h.1
    · rcases List.mem_cons.1 hm' with rfl | h2
      · exact absurd (List.mem_map.2 ⟨m, h1, e⟩) h.1
      · exact inj_of_nodup h.2 m h1 m' h2 e

def dstB (l : List Oper) (n : Nat) : Bool := l.all fun o => match o.dst with | some t => decide (t < n) | none => true

section
variable {d : Nat} {P : Program} {l : List Oper} {vs : List Vl} {U : List (Option Nat)} {E : List Bool} {a0 : Act} {Q : Exit → Act → World → Prop} {w : World} {c : Nat} {vars : List VarV} {K : List (Nat × Nat)} {av : List (Nat × Nat)} {R : Value → Prop} {T : Value → World → Prop}
theorem wpIn_region_vars {id : Nat} (hm : P.follows .mixedOrders = true) (hB : flowB l.toArray U E = true) (hU : vs.map useV = U) (hav : vars.map (fun m => (m.a, m.st)) = av) (hK : kindB l U c av K = true) (hn : dstB l a0.tmps.size = true)
    (hL : varL P w c vars R T a0 (fun ρ => putAll l (vs.map (valV ρ)) a0) 0 l K U vs E)
    (hQ : ∀ ρ W, Aft w W → R (ρ c) → T (ρ c) W → (∀ m ∈ vars, ∃ q, ρ m.a = .pointer (some ⟨q, 0, none⟩) ∧ w.heap.size ≤ q ∧ Blk W q m.t (m.g (ρ c))) → (∀ m ∈ vars, ∀ m' ∈ vars, m.a ≠ m'.a → ρ m.a ≠ ρ m'.a) → Q .normal (putAll l (vs.map (valV ρ)) a0) W) :
    (Code.region id l.toArray true).wpIn Fence.wide d P Q a0 w := by
  unfold kindB at hK
  simp only [Bool.and_eq_true] at hK
  obtain ⟨⟨⟨⟨⟨⟨hK1, hK2⟩, hK3⟩, hK4⟩, hK5⟩, hK6⟩, hK7⟩ := hK
  have hK1 : U.length = l.length := by simpa using hK1
  have hK2 : K.length = l.length := by simpa using hK2
  have hK3 : K[c]? = some (1, 0) := by simpa using hK3
  have hK4 : U[c]? = some (some c) := by simpa using hK4
  have hnod : (vars.map VarV.a).Nodup := by
    have h := of_decide_eq_true hK5
    rw [← hav, List.map_map] at h
    exact h
  have hvl : vs.length = l.length := by rw [← hK1, ← hU, List.length_map]
  have hcl : c < l.length := by rw [← hK2]; exact (List.getElem?_eq_some_iff.1 hK3).1
  -- of each variable
  have hvar : ∀ (n : Nat) (m : VarV), vars[n]? = some m → K[m.a]? = some (2, n) ∧ K[m.st]? = some (3, n) := by
    intro n m hnm
    have h1 : av[n]? = some (m.a, m.st) := by rw [← hav, List.getElem?_map, hnm]; rfl
    have := List.all_eq_true.1 hK7 n (List.mem_range.2 (List.getElem?_eq_some_iff.1 h1).1)
    rw [h1] at this
    simpa using this
  have hmem : ∀ m ∈ vars, ∃ n : Nat, vars[n]? = some m := fun m hm => List.getElem?_of_mem hm
  have hka : ∀ m ∈ vars, ∃ n : Nat, K[m.a]? = some (2, n) := fun m hm => by obtain ⟨n, h⟩ := hmem m hm; exact ⟨n, (hvar n m h).1⟩
  have hks : ∀ m ∈ vars, ∃ n : Nat, K[m.st]? = some (3, n) := fun m hm => by obtain ⟨n, h⟩ := hmem m hm; exact ⟨n, (hvar n m h).2⟩
  have hac : ∀ m ∈ vars, m.a ≠ c := fun m hm e => by obtain ⟨n, h⟩ := hka m hm; rw [e, hK3] at h; cases h
  have hsc : ∀ m ∈ vars, m.st ≠ c := fun m hm e => by obtain ⟨n, h⟩ := hks m hm; rw [e, hK3] at h; cases h
  have has : ∀ m ∈ vars, ∀ m' ∈ vars, m.a ≠ m'.st := fun m hm m' hm' e => by
    obtain ⟨n, h⟩ := hka m hm
    obtain ⟨n', h'⟩ := hks m' hm'
    rw [e, h'] at h; cases h
  have hst : ∀ m ∈ vars, ∀ m' ∈ vars, m.st = m'.st → m = m' := fun m hm m' hm' e => by
    obtain ⟨n, h⟩ := hmem m hm
    obtain ⟨n', h'⟩ := hmem m' hm'
    have h1 := (hvar n m h).2
    have h2 := (hvar n' m' h').2
    rw [e, h2] at h1
    have e2 : n' = n := by simpa using h1
    subst e2
    rw [h] at h'; exact Option.some.inj h'
  have hrow : ∀ i, i < l.length → (match K[i]?, l[i]?, U[i]? with
    | some (0, _), some _, some u => u != some i && i != c && av.all fun m => m.1 != i && m.2 != i
    | some (1, _), some _, some _ => i == c
    | some (2, m), some _, some u => u == some i && i != c && (match av[m]? with | some x => x.1 == i | none => false) && av.all fun m => m.2 != i
    | some (3, m), some o, some u => u == some c && i != c && o.dst.isNone && (match av[m]? with | some x => x.2 == i && depOn o x.1 | none => false) && av.all fun m => m.1 != i
    | _, _, _ => false) = true := fun i hi => List.all_eq_true.1 hK6 i (List.mem_range.2 hi)
  have hsu : ∀ m ∈ vars, U[m.st]? = some (some c) ∧ ∃ o, l[m.st]? = some o ∧ depOn o m.a = true ∧ o.dst = none := by
    intro m hm
    obtain ⟨n, h⟩ := hmem m hm
    have h1 := (hvar n m h).2
    have hlt : m.st < l.length := by rw [← hK2]; exact (List.getElem?_eq_some_iff.1 h1).1
    have h2 := hrow m.st hlt
    have h3 : av[n]? = some (m.a, m.st) := by rw [← hav, List.getElem?_map, h]; rfl
    rw [h1, List.getElem?_eq_getElem hlt] at h2
    rcases hu : U[m.st]? with _ | u
    · rw [hu] at h2; cases h2
    · rw [hu] at h2
      simp only [h3, Bool.and_eq_true] at h2
      obtain ⟨⟨⟨⟨g1, _⟩, g3⟩, _, g4⟩, _⟩ := h2
      exact ⟨by simpa using g1, _, List.getElem?_eq_getElem hlt, g4, by simpa using g3⟩
  refine wpIn_region_flow (J := varJ w c vars R T) (fun _ => undef) hm hB hU ?_ ?_ ?_
  · intro i o ho f ρ W hJ hfi hd hI hu hdn
    have hil : i < l.length := (List.getElem?_eq_some_iff.1 ho).1
    obtain ⟨hA, hC, hV, hD⟩ := hJ
    have hki : K[i]? = some K[i] := List.getElem?_eq_getElem (by omega)
    have hui : U[i]? = some U[i] := List.getElem?_eq_getElem (by omega)
    have hvi : vs[i]? = some vs[i] := List.getElem?_eq_getElem (by omega)
    have hO := varL_at hL i o _ _ _ ho hki hui hvi
    rw [Nat.zero_add] at hO
    have hr := hrow i hil
    rw [hki, ho, hui] at hr
    have hstf : ∀ m ∈ vars, f c = false → f m.st = false := fun m hm hc => by
      rcases h : f m.st with _ | _
      · rfl
      · have := hI m.st c h (hsu m hm).1; rw [hc] at this; cases this
    have hstf2 : ∀ m ∈ vars, f m.a = false → f m.st = false := fun m hm ha => by
      rcases h : f m.st with _ | _
      · rfl
      · obtain ⟨o', h1, h2, _⟩ := (hsu m hm).2
        have := hdn m.st o' h1 h m.a h2; rw [ha] at this; cases this
    have hone : ∀ ρ' v, ((vs.map (valV ρ'))[i]? = some v) → ∀ dd, o.dst = some dd → (putAll l (vs.map (valV ρ')) a0).tmps[dd]? = some v := by
      intro ρ' v hv dd hdd
      refine putAll_at l _ a0 i o v ho hdd hv (fun j o' hj hdj => ?_) ?_
      · have h5 := (flowB_at hB (i := i) (o := o) (by simpa using ho)).wr
        unfold writes1 at h5
        rw [hdd] at h5
        have hjl : j < l.toArray.size := by simpa using (List.getElem?_eq_some_iff.1 hj).1
        have := List.all_eq_true.1 h5 j (List.mem_range.2 hjl)
        rw [Bool.or_eq_true] at this
        rcases this with h | h
        · simpa using h
        · simp [slotOf, hj, hdj] at h
      · have := List.all_eq_true.1 hn o (List.mem_of_getElem? ho)
        rw [hdd] at this
        simpa using this
    obtain ⟨G, hG⟩ : ∃ G : Nat → Bool, (fun j => j == i || f j) = G := ⟨_, rfl⟩
    rw [hG]
    have hfe : ∀ j, j ≠ i → G j = f j := fun j h => by
      have h2 : (j == i) = false := by simpa using h
      rw [← hG]; simp only [h2, Bool.false_or]
    have hGi : G i = true := by rw [← hG]; simp
    clear hG
    rcases hk : K[i] with ⟨kk, km⟩
    rw [hk] at hO hr
    match kk, hO, hr with
    | 0, hO, hr =>
      simp only [Bool.and_eq_true] at hr
      obtain ⟨⟨g1, g2⟩, g3⟩ := hr
      have g1 : U[i] ≠ some i := by simpa using g1
      have g2 : i ≠ c := by simpa using g2
      have g3 : ∀ m ∈ vars, m.a ≠ i ∧ m.st ≠ i := fun m hm => by
        have := List.all_eq_true.1 g3 (m.a, m.st) (by rw [← hav]; exact List.mem_map.2 ⟨m, hm, rfl⟩)
        simpa using this
      have hown : (U[i]? == some (some i)) = false := by rw [hui]; simpa using g1
      rw [hown]
      refine .inl ⟨_, _, W, hO ρ W hA (fun e => (hC (hu c (by rw [hui, e]) (fun h => g2 h.symm))).1), .inl rfl, ?_, hone ρ _ (by rw [List.getElem?_map, hvi]; rfl)⟩
      refine ⟨hA, fun h => ?_, fun m hm h => ?_, fun m hm m' hm' hne h h' => ?_⟩
      · rw [hfe c (fun e => g2 e.symm)] at h
        refine ⟨(hC h).1, fun W' hF => (hC h).2 W' (hF.mono fun k _ ⟨m, hm, h1, h2⟩ => ⟨m, hm, ?_, h2⟩)⟩
        rwa [hfe _ (g3 m hm).1] at h1
      · rw [hfe _ (g3 m hm).1] at h
        rw [hfe _ (g3 m hm).2]
        exact hV m hm h
      · rw [hfe _ (g3 m hm).1] at h
        rw [hfe _ (g3 m' hm').1] at h'
        exact hD m hm m' hm' hne h h'
    | 1, hO, hr =>
      have e : i = c := by simpa using hr
      subst e
      have hown : (U[i]? == some (some i)) = true := by rw [hK4]; simp
      rw [hown]
      obtain ⟨hx, hO⟩ := hO
      obtain ⟨fn, args, hrun, hcall⟩ := hO ρ W hA
      refine .inr ⟨fn, args, W, hrun, hcall.mono ?_⟩
      rintro r W1 ⟨v, rfl, hR, hW1, hT⟩
      refine ⟨v, rfl, ?_, hone _ v (by rw [List.getElem?_map, hvi, Option.map_some, if_pos rfl, hx, updV_same])⟩
      rw [if_pos rfl]
      refine ⟨hA.trans hW1, fun _ => ⟨by rw [updV_same]; exact hR, fun W' hF => ?_⟩, fun m hm h => ?_, fun m hm m' hm' hne h h' => ?_⟩
      · rw [updV_same]
        refine hT W' (hF.mono fun k _ ⟨m, hm, h1, h2⟩ => ?_)
        rw [hfe _ (hac m hm)] at h1
        rw [updV_ne _ _ (hac m hm)] at h2
        obtain ⟨q, h3, h4, h5⟩ := hV m hm h1
        rw [h3] at h2
        have e : q = k := by simpa using h2
        subst e
        rw [hstf m hm hfi] at h5
        exact ⟨h4, h5.lt, m, hm, h5.aft hW1⟩
      · rw [hfe _ (hac m hm)] at h
        rw [hfe _ (hsc m hm), updV_ne _ _ (hac m hm)]
        obtain ⟨q, h3, h4, h5⟩ := hV m hm h
        rw [hstf m hm hfi] at h5 ⊢
        exact ⟨q, h3, h4, h5.aft hW1⟩
      · rw [hfe _ (hac m hm)] at h
        rw [hfe _ (hac m' hm')] at h'
        rw [updV_ne _ _ (hac m hm), updV_ne _ _ (hac m' hm')]
        exact hD m hm m' hm' hne h h'
    | 2, hO, hr =>
      simp only [Bool.and_eq_true] at hr
      obtain ⟨⟨⟨g1, g2⟩, g3⟩, g4⟩ := hr
      have g1 : U[i] = some i := by simpa using g1
      have g2 : i ≠ c := by simpa using g2
      have hown : (U[i]? == some (some i)) = true := by rw [hui, g1]; simp
      rw [hown]
      rcases hmv : vars[km]? with _ | mv
      · have : av[km]? = none := by rw [← hav, List.getElem?_map, hmv]; rfl
        rw [this] at g3; cases g3
      have hav1 : av[km]? = some (mv.a, mv.st) := by rw [← hav, List.getElem?_map, hmv]; rfl
      rw [hav1] at g3
      have e : mv.a = i := by simpa using g3
      subst e
      have hmm : mv ∈ vars := List.mem_of_getElem? hmv
      have g4 : ∀ m ∈ vars, m.st ≠ mv.a := fun m hm => fun e => has mv hmm m hm e.symm
      obtain ⟨hx, hO⟩ := hO
      rw [hmv] at hO
      refine .inl ⟨_, _, _, hO ρ W, .inl rfl, ?_, hone _ _ (by rw [List.getElem?_map, hvi, Option.map_some, if_pos rfl, hx, updV_same])⟩
      rw [if_pos rfl]
      have hne : ∀ m ∈ vars, m ≠ mv → m.a ≠ mv.a := fun m hm h e => h (inj_of_nodup hnod m hm mv hmm e)
      refine ⟨hA.alloc _, fun h => ?_, fun m hm h => ?_, fun m hm m' hm' hne' h h' => ?_⟩
      · rw [hfe c (fun e => g2 e.symm)] at h
        rw [updV_ne _ _ (fun e => g2 e.symm)]
        refine ⟨(hC h).1, fun W' hF => (hC h).2 W' (((Frm.refl _ W).alloc _).trans hF fun k hk ⟨m, hm, h1, h2⟩ => ?_)⟩
        by_cases hma : m.a = mv.a
        · rw [hma, updV_same] at h2
          simp at h2
        · rw [hfe _ hma] at h1
          rw [updV_ne _ _ hma] at h2
          exact ⟨m, hm, h1, h2⟩
      · by_cases hma : m.a = mv.a
        · obtain rfl := inj_of_nodup hnod m hm mv hmm hma
          rw [updV_same, hfe _ (g4 m hm), hstf2 m hm hfi]
          exact ⟨_, rfl, hA.le, Blk.new W _ _⟩
        · rw [hfe _ hma] at h
          rw [updV_ne _ _ hma, hfe _ (g4 m hm), updV_ne _ _ (fun e => g2 e.symm)]
          obtain ⟨q, h3, h4, h5⟩ := hV m hm h
          exact ⟨q, h3, h4, h5.alloc _⟩
      · have key : ∀ m ∈ vars, m.a ≠ mv.a → f m.a = true → ρ m.a ≠ .pointer (some ⟨W.heap.size, 0, none⟩) := by
          intro m hm _ hf e
          obtain ⟨q, h3, _, h5⟩ := hV m hm hf
          rw [h3] at e
          have e : q = W.heap.size := by simpa using e
          have := h5.lt
          omega
        by_cases hma : m.a = mv.a
        · have hma' : m'.a ≠ mv.a := fun e => hne' (by rw [hma, e])
          rw [hfe _ hma'] at h'
          rw [hma, updV_same, updV_ne _ _ hma']
          exact fun e => key m' hm' hma' h' e.symm
        · by_cases hma' : m'.a = mv.a
          · rw [hfe _ hma] at h
            rw [hma', updV_same, updV_ne _ _ hma]
            exact key m hm hma h
          · rw [hfe _ hma] at h
            rw [hfe _ hma'] at h'
            rw [updV_ne _ _ hma, updV_ne _ _ hma']
            exact hD m hm m' hm' hne' h h'
    | 3, hO, hr =>
      simp only [Bool.and_eq_true] at hr
      obtain ⟨⟨⟨⟨g1, g2⟩, g5⟩, g3⟩, g4⟩ := hr
      have g1 : U[i] = some c := by simpa using g1
      have g2 : i ≠ c := by simpa using g2
      have g5 : o.dst = none := by simpa using g5
      have hown : (U[i]? == some (some i)) = false := by rw [hui, g1]; simpa using fun e => g2 e.symm
      rw [hown]
      rcases hmv : vars[km]? with _ | mv
      · have : av[km]? = none := by rw [← hav, List.getElem?_map, hmv]; rfl
        rw [this] at g3; cases g3
      have hav1 : av[km]? = some (mv.a, mv.st) := by rw [← hav, List.getElem?_map, hmv]; rfl
      rw [hav1] at g3
      simp only [Bool.and_eq_true] at g3
      have e : mv.st = i := by simpa using g3.1
      subst e
      have hmm : mv ∈ vars := List.mem_of_getElem? hmv
      have hfa : f mv.a = true := hd _ g3.2
      have hfc : f c = true := hu c (by rw [hui, g1]) (fun e => g2 e.symm)
      have g4 : ∀ m ∈ vars, m.a ≠ mv.st := fun m hm => has m hm mv hmm
      obtain ⟨q, h3, h4, h5⟩ := hV mv hmm hfa
      rw [hfi] at h5
      unfold varO at hO
      simp only [hmv] at hO
      obtain ⟨W', hrun, hb, hF⟩ := hO ρ W q h3 (hC hfc).1 h5
      refine .inl ⟨.skip, undef, W', hrun, .inr ⟨rfl, rfl⟩, ?_, fun dd hdd => by rw [g5] at hdd; cases hdd⟩
      rw [if_neg (by decide)]
      refine ⟨Below.trans hA (hF.below hA.le (fun k hk e => by omega)), fun h => ?_, fun m hm h => ?_, fun m hm m' hm' hne h h' => ?_⟩
      · refine ⟨(hC hfc).1, fun W2 hF2 => (hC hfc).2 W2 (Frm.trans (hF.mono (F' := fun k => ∃ m ∈ vars, f m.a = true ∧ ρ m.a = .pointer (some ⟨k, 0, none⟩)) fun k _ e => ⟨mv, hmm, hfa, by rw [h3, e]⟩) hF2 fun k _ ⟨m, hm, h1, h2⟩ => ⟨m, hm, ?_, h2⟩)⟩
        rwa [hfe _ (g4 m hm)] at h1
      · rw [hfe _ (g4 m hm)] at h
        by_cases hms : m = mv
        · subst hms
          refine ⟨q, h3, h4, ?_⟩
          rw [hGi]
          exact hb
        · obtain ⟨q', k3, k4, k5⟩ := hV m hm h
          have hne : q' ≠ q := fun e => hD m hm mv hmm (fun e2 => hms (inj_of_nodup hnod m hm mv hmm e2)) h hfa (by rw [k3, h3, e])
          rw [hfe _ (fun e => hms (hst m hm mv hmm e))]
          exact ⟨q', k3, k4, k5.frm hF hne⟩
      · rw [hfe _ (g4 m hm)] at h
        rw [hfe _ (g4 m' hm')] at h'
        exact hD m hm m' hm' hne h h'
    | kk + 4, hO, hr => exact hO.elim
  · exact ⟨(Aft.refl w).drew, fun h => (nomatch h), fun m _ h => (nomatch h), fun m _ m' _ _ h => (nomatch h)⟩
  · intro f ρ W ⟨hA, hC, hV, hD⟩ hall
    have hfc := hall c hcl
    have hfa : ∀ m ∈ vars, f m.a = true := fun m hm => by
      obtain ⟨n, h⟩ := hka m hm
      exact hall _ (by rw [← hK2]; exact (List.getElem?_eq_some_iff.1 h).1)
    have hfs : ∀ m ∈ vars, f m.st = true := fun m hm => by
      obtain ⟨n, h⟩ := hks m hm
      exact hall _ (by rw [← hK2]; exact (List.getElem?_eq_some_iff.1 h).1)
    refine hQ ρ W hA (hC hfc).1 ((hC hfc).2 W (Frm.refl _ W)) (fun m hm => ?_) (fun m hm m' hm' hne => hD m hm m' hm' hne (hfa m hm) (hfa m' hm'))
    obtain ⟨q, h3, h4, h5⟩ := hV m hm (hfa m hm)
    rw [hfs m hm] at h5
    exact ⟨q, h3, h4, h5⟩
end
end Go.Proofs.YtaekdnfpgkfjkaaDoor
