/- A region that draws its order: one law for reads, a call, new variables and stores, in whatever order they come. -/
import Derived.Test.YtaekdnfpgkfjkaaDoorD1
import Derived.Test.YtaekdnfpgkfjkaaDoorH6
namespace Go.Proofs.YtaekdnfpgkfjkaaDoor
open Go.RowKit

/-- What an operation yields: a value, or what becomes of one operation's outcome. -/
abbrev Vl := Sum Value (Nat × (Value → Value))
def valV (ρ : Nat → Value) : Vl → Value
  | .inl v => v
  | .inr x => x.2 (ρ x.1)
def useV : Vl → Option Nat
  | .inl _ => none
  | .inr x => some x.1
def updV (ρ : Nat → Value) (i : Nat) (v : Value) : Nat → Value := fun j => if j = i then v else ρ j
theorem updV_same (ρ : Nat → Value) (i : Nat) (v : Value) : updV ρ i v i = v := if_pos rfl
theorem updV_ne (ρ : Nat → Value) {i j : Nat} (v : Value) (h : j ≠ i) : updV ρ i v j = ρ j := if_neg h
/-- One of several answers. -/
def extV (k : Nat) : Value → Value
  | .tuple vs => vs.getD k undef
  | _ => undef

def uses1 (U : List (Option Nat)) (i : Nat) (o : Oper) : Bool := match U[i]? with
  | some (some s) => s == i || (List.range i).any fun j => depOn o j && (j == s || U[j]? == some (some s))
  | some none => true
  | none => false
def flowB (ops : Array Oper) (U : List (Option Nat)) (E : List Bool) : Bool :=
  (List.range ops.size).all fun i => match ops[i]? with
    | none => false
    | some o => o.guard.isNone && plainDS o && (o.after.all fun e => !Region.binds .any e || decide (e.on < i)) && (if E.getD i false then readsA ops i o else reads1 ops o) && writes1 ops i o && uses1 U i o

structure FlowAt (ops : Array Oper) (U : List (Option Nat)) (E : List Bool) (i : Nat) (o : Oper) : Prop where
  g : o.guard = none
  p : plainDS o = true
  lo : ∀ e ∈ o.after, Region.binds .any e = true → e.on < i
  rd : (if E.getD i false then readsA ops i o else reads1 ops o) = true
  wr : writes1 ops i o = true
  us : uses1 U i o = true
theorem flowB_at {ops : Array Oper} {U : List (Option Nat)} {E : List Bool} (h : flowB ops U E = true) {i : Nat} {o : Oper} (ho : ops[i]? = some o) : FlowAt ops U E i o := by
  unfold flowB at h
  have hi : i < ops.size := (Array.getElem?_eq_some_iff.1 ho).1
  have := List.all_eq_true.1 h i (List.mem_range.2 hi)
  rw [ho] at this
  simp only [Bool.and_eq_true] at this
  obtain ⟨⟨⟨⟨⟨h1, h2⟩, h3⟩, h4⟩, h5⟩, h6⟩ := this
  refine ⟨by simpa using h1, h2, fun e he hb => ?_, h4, h5, h6⟩
  have := Array.all_eq_true_iff_forall_mem.1 h3 e he
  simpa [hb] using this

theorem putAll_congr {t : Tmp} : ∀ (l : List Oper) (vs vs' : List Value) (a a' : Act), vs.length = vs'.length → a.tmps.size = a'.tmps.size → a.tmps[t]? = a'.tmps[t]? →
    (∀ (j : Nat) (o : Oper), l[j]? = some o → o.dst = some t → vs[j]? = vs'[j]?) → (putAll l vs a).tmps[t]? = (putAll l vs' a').tmps[t]?
  | [], _, _, _, _, _, _, h, _ => by unfold putAll; exact h
  | o :: l, [], [], a, a', _, _, h, _ => by simpa [putAll] using h
  | o :: l, [], _ :: _, _, _, hl, _, _, _ => by simp at hl
  | o :: l, _ :: _, [], _, _, hl, _, _, _ => by simp at hl
  | o :: l, v :: vs, v' :: vs', a, a', hl, hs, h, hv => by
    unfold putAll
    refine putAll_congr l vs vs' _ _ (by simpa using hl) (by rw [put_size, put_size]; exact hs) ?_ (fun j o' hj hd => by have := hv (j + 1) o' (by simpa using hj) hd; simpa using this)
    by_cases hd : o.dst = some t
    · have h0 := hv 0 o (by simp) hd
      have h0 : v = v' := by simpa using h0
      subst h0
      rw [hd]
      simp only [Act.put]
      rw [Array.getElem?_setIfInBounds, Array.getElem?_setIfInBounds, hs, if_pos rfl, if_pos rfl]
    · rw [put_other _ _ _ _ hd, put_other _ _ _ _ hd]; exact h

/-- One step. -/
def flowS (P : Program) (fr : (Nat → Value) → Act) (fin : (Nat → Value) → Act) (o : Oper) (i : Nat) (J : (Nat → Value) → World → Prop) (own : Bool) (ρ : Nat → Value) (W : World) : Prop :=
  (∃ nx v W', (execOp (fr ρ).eval o).run P W = .ok nx W' ∧ (nx = .value v ∨ nx = .skip ∧ v = undef) ∧ J (if own then updV ρ i v else ρ) W' ∧ ∀ d, o.dst = some d → (fin (if own then updV ρ i v else ρ)).tmps[d]? = some v) ∨
  (∃ f args W1, (execOp (fr ρ).eval o).run P W = .ok (.enter f args) W1 ∧ Calls P f args W1 fun r W' => ∃ v, r = .returned v ∧ J (if own then updV ρ i v else ρ) W' ∧ ∀ d, o.dst = some d → (fin (if own then updV ρ i v else ρ)).tmps[d]? = some v)

structure FlowInv (l : List Oper) (vs : List Vl) (U : List (Option Nat)) (a0 : Act) (J : (Nat → Bool) → (Nat → Value) → World → Prop) (listed : Array Bool) (a : Act) (W : World) (ρ : Nat → Value) : Prop where
  size : listed.size = l.toArray.size
  tsize : a.tmps.size = a0.tmps.size
  defers : a.defers = a0.defers
  down : ∀ i o, l.toArray[i]? = some o → listed.getD i false = true → ∀ j, depOn o j = true → listed.getD j false = true
  slots : ∀ t, (∀ j, slotOf l.toArray j = some t → listed.getD j false = true) → a.tmps[t]? = (putAll l (vs.map (valV ρ)) a0).tmps[t]?
  orig : ∀ t, (∀ j, slotOf l.toArray j = some t → listed.getD j false = false) → a.tmps[t]? = a0.tmps[t]?
  use : ∀ i s, listed.getD i false = true → U[i]? = some (some s) → listed.getD s false = true
  word : J (fun j => listed.getD j false) ρ W

section
variable {d : Nat} {P : Program} {l : List Oper} {vs : List Vl} {U : List (Option Nat)} {E : List Bool} {a0 : Act} {J : (Nat → Bool) → (Nat → Value) → World → Prop} {Q : Exit → Act → World → Prop}
theorem flow_all {listed : Array Bool} (hB : flowB l.toArray U E = true) (hs : listed.size = l.toArray.size) (h : Region.ready .any l.toArray listed = []) : ∀ (m i : Nat), i < m → i < l.toArray.size → listed.getD i false = true
  | 0, i, h0, _ => by omega
  | m + 1, i, hi, hl => by
    by_cases hn : listed.getD i false = true
    · exact hn
    · exfalso
      have hr : i ∈ Region.ready .any l.toArray listed := by
        refine mem_ready.2 ⟨by rw [getD_tf (by omega)]; simpa using hn, l.toArray[i], Array.getElem?_eq_getElem hl, fun e he hb => ?_⟩
        have he2 := (flowB_at hB (Array.getElem?_eq_getElem hl)).lo e he hb
        exact flow_all hB hs h m e.on (by omega) (by omega)
      rw [h] at hr
      cases hr
theorem wpAnyIn_flow (hB : flowB l.toArray U E = true) (hU : vs.map useV = U)
    (hS : ∀ (i : Nat) (o : Oper), l[i]? = some o → ∀ f ρ W, J f ρ W → f i = false → (∀ j, depOn o j = true → f j = true) → (∀ j s, f j = true → U[j]? = some (some s) → f s = true) → (∀ s, U[i]? = some (some s) → s ≠ i → f s = true) → (∀ (j : Nat) (o' : Oper), l[j]? = some o' → f j = true → ∀ k, depOn o' k = true → f k = true) →
      flowS P (fun ρ => if E.getD i false then a0 else putAll l (vs.map (valV ρ)) a0) (fun ρ => putAll l (vs.map (valV ρ)) a0) o i (J fun j => j == i || f j) (U[i]? == some (some i)) ρ W)
    (hQ : ∀ f ρ W, J f ρ W → (∀ i, i < l.length → f i = true) → Q .normal (putAll l (vs.map (valV ρ)) a0) W) :
    ∀ (fuel : Nat) (listed : Array Bool) (a : Act) (W : World) (ρ : Nat → Value), FlowInv l vs U a0 J listed a W ρ → ((List.range l.toArray.size).filter (fun i => !listed.getD i false)).length ≤ fuel →
      wpAnyIn Fence.wide d P .any l.toArray Q fuel listed a W := by
  have hjl : ∀ {j t}, slotOf l.toArray j = some t → j < l.toArray.size := by
    intro j t hj
    unfold slotOf at hj
    rcases hx : l.toArray[j]? with _ | o
    · rw [hx] at hj; cases hj
    · exact (Array.getElem?_eq_some_iff.1 hx).1
  have hend : ∀ (listed : Array Bool) (a : Act) (W : World) (ρ : Nat → Value), FlowInv l vs U a0 J listed a W ρ → Region.ready .any l.toArray listed = [] → Q .normal a W := by
    intro listed a W ρ I h
    have hall := flow_all hB I.size h l.toArray.size
    have ha : a = putAll l (vs.map (valV ρ)) a0 := by
      have h1 : a.tmps = (putAll l (vs.map (valV ρ)) a0).tmps := by
        refine Array.ext (by rw [I.tsize, putAll_size]) fun t h1 h2 => ?_
        have := I.slots t (fun j hj => hall j (hjl hj) (hjl hj))
        rw [Array.getElem?_eq_getElem h1, Array.getElem?_eq_getElem h2] at this
        exact Option.some.inj this
      have h3 : a.defers = (putAll l (vs.map (valV ρ)) a0).defers := by rw [I.defers, putAll_defers]
      generalize putAll l (vs.map (valV ρ)) a0 = b at *
      cases a; cases b
      simp only at h1 h3
      subst h1 h3
      rfl
    rw [ha]
    exact hQ _ _ _ I.word (fun i hi => hall i (by simpa using hi) (by simpa using hi))
  intro fuel
  induction fuel with
  | zero =>
    intro listed a W ρ I hf
    have h0 : Region.ready .any l.toArray listed = [] := by
      rcases h : Region.ready .any l.toArray listed with _ | ⟨i, rs⟩
      · rfl
      · exfalso
        have hi : i ∈ Region.ready .any l.toArray listed := by rw [h]; exact List.mem_cons_self
        obtain ⟨h1, o, ho, _⟩ := mem_ready.1 hi
        have hlt := (Array.getElem?_eq_some_iff.1 ho).1
        rw [getD_tf (by rw [I.size]; exact hlt)] at h1
        have hm : i ∈ (List.range l.toArray.size).filter (fun i => !listed.getD i false) := List.mem_filter.2 ⟨List.mem_range.2 hlt, by rw [h1]; rfl⟩
        have := List.length_pos_of_mem hm
        omega
    exact ⟨h0, hend listed a W ρ I h0⟩
  | succ fuel ih =>
    intro listed a W ρ I hf
    refine ⟨hend listed a W ρ I, fun i hi => ?_⟩
    obtain ⟨h1, o, ho, _⟩ := mem_ready.1 hi
    have hlt := (Array.getElem?_eq_some_iff.1 ho).1
    have hol : l[i]? = some o := by simpa using ho
    rw [getD_tf (by rw [I.size]; exact hlt)] at h1
    have A := flowB_at hB ho
    -- the frame that it sees
    have hex : execOp a.eval o = execOp (if E.getD i false then a0 else putAll l (vs.map (valV ρ)) a0).eval o := by
      refine execOp_congr o (fun cs bb e => by have := A.p; unfold plainDS at this; rw [e] at this; cases this) fun x hx => eval_same fun t ht => ?_
      subst ht
      have hArd := A.rd
      rcases hEi : E.getD i false with _ | _
      case true =>
        rw [hEi, if_pos rfl] at hArd
        rw [if_pos rfl]
        refine I.orig t fun j hj => ?_
        have := List.all_eq_true.1 hArd (.tmp t) (by simpa using hx)
        simp only at this
        have := List.all_eq_true.1 this j (List.mem_range.2 (hjl hj))
        rw [Bool.or_eq_true] at this
        rcases this with h | h
        · simp [hj] at h
        · rw [Array.getElem?_eq_getElem (hjl hj)] at h
          simp only at h
          rcases hlj : listed.getD j false with _ | _
          · rfl
          · have := I.down j _ (Array.getElem?_eq_getElem (hjl hj)) hlj i h
            rw [this] at h1; cases h1
      rw [hEi, if_neg (by decide)] at hArd
      rw [if_neg (by decide)]
      refine I.slots t fun j hj => ?_
      have := List.all_eq_true.1 hArd (.tmp t) (by simpa using hx)
      simp only at this
      have := List.all_eq_true.1 this j (List.mem_range.2 (hjl hj))
      rw [Bool.or_eq_true] at this
      rcases this with h | h
      · simp [hj] at h
      · exact depOn_ready hi ho h
    have hdep : ∀ j, depOn o j = true → listed.getD j false = true := fun j h => depOn_ready hi ho h
    have hus : ∀ s, U[i]? = some (some s) → s ≠ i → listed.getD s false = true := by
      intro s hs hne
      have h2 := A.us
      unfold uses1 at h2
      rw [hs] at h2
      simp only [Bool.or_eq_true] at h2
      rcases h2 with h2 | h2
      · exact absurd (by simpa using h2) hne
      · obtain ⟨j, _, hj⟩ := List.any_eq_true.1 h2
        rw [Bool.and_eq_true, Bool.or_eq_true] at hj
        rcases hj.2 with h3 | h3
        · have : j = s := by simpa using h3
          subst this; exact hdep j hj.1
        · exact I.use j s (hdep j hj.1) (by simpa using h3)
    have hli : ∀ j, (listed.setIfInBounds i true).getD j false = (j == i || listed.getD j false) := by
      intro j
      by_cases hj : i = j
      · subst hj
        have hls : i < listed.size := by rw [I.size]; exact hlt
        have : (i == i) = true := by simp
        rw [this, Bool.true_or, Array.getD_eq_getD_getElem?, Array.getElem?_setIfInBounds, if_pos rfl, if_pos hls]; rfl
      · rw [getD_set_ne false hj]
        have : (j == i) = false := by simpa using fun e => hj e.symm
        rw [this, Bool.false_or]
    have hgo : ∀ (v : Value) (W' : World) (ρ' : Nat → Value), (ρ' = if (U[i]? == some (some i)) = true then updV ρ i v else ρ) → J (fun j => j == i || listed.getD j false) ρ' W' → (∀ dd, o.dst = some dd → (putAll l (vs.map (valV ρ')) a0).tmps[dd]? = some v) →
        wpAnyIn Fence.wide d P .any l.toArray Q fuel (listed.setIfInBounds i true) (a.put o.dst v) W' := by
      intro v W' ρ' hρ hJ hdst
      refine ih _ _ _ ρ' ⟨by simpa using I.size, by rw [put_size]; exact I.tsize, by rw [put_defers]; exact I.defers, ?_, ?_, ?_, ?_, ?_⟩ ?_
      · intro i' o' ho' hl' j hd
        rw [hli] at hl' ⊢
        rw [Bool.or_eq_true] at hl' ⊢
        rcases hl' with e | e
        · have e : i' = i := by simpa using e
          subst e
          rw [ho] at ho'; injection ho' with ho'; subst ho'
          exact .inr (hdep j hd)
        · exact .inr (I.down i' o' ho' e j hd)
      · intro t ht
        by_cases hd : o.dst = some t
        · rw [hd]
          have hb := hdst t hd
          have hts : t < a.tmps.size := by
            have := (Array.getElem?_eq_some_iff.1 hb).1
            rw [putAll_size] at this
            rw [I.tsize]; exact this
          rw [hb]
          simp [Act.put, hts]
        · rw [put_other _ _ _ _ hd]
          have hold : ∀ j, slotOf l.toArray j = some t → listed.getD j false = true := by
            intro j hj
            have := ht j hj
            rw [hli, Bool.or_eq_true] at this
            rcases this with e | e
            · have e : j = i := by simpa using e
              subst e
              exfalso; unfold slotOf at hj; rw [ho] at hj; exact hd hj
            · exact e
          rw [I.slots t hold]
          refine putAll_congr l _ _ _ _ (by simp) rfl rfl fun j oj hj hdj => ?_
          have hlj := hold j (by unfold slotOf; simp [hj, hdj])
          have hne : j ≠ i := fun e => by rw [e] at hlj; rw [h1] at hlj; cases hlj
          rw [List.getElem?_map, List.getElem?_map]
          rcases hvj : vs[j]? with _ | x
          · rfl
          · have huj : U[j]? = some (useV x) := by rw [← hU, List.getElem?_map, hvj]; rfl
            simp only [Option.map_some, Option.some.injEq]
            cases x with
            | inl v => rfl
            | inr x =>
              obtain ⟨s, g⟩ := x
              have hs := I.use j s hlj huj
              have hsi : s ≠ i := fun e => by rw [e] at hs; rw [h1] at hs; cases hs
              show g (ρ s) = g (ρ' s)
              rw [hρ]
              split
              · rw [updV_ne _ _ hsi]
              · rfl
      · intro t ht
        have hdt : o.dst ≠ some t := fun e => by
          have h5 := ht i (by unfold slotOf; rw [ho]; exact e)
          rw [hli] at h5
          simp at h5
        rw [put_other _ _ _ _ hdt]
        refine I.orig t fun j hj => ?_
        have h5 := ht j hj
        rw [hli, Bool.or_eq_false_iff] at h5
        exact h5.2
      · intro j s hj hs
        rw [hli, Bool.or_eq_true] at hj ⊢
        rcases hj with e | e
        · have e : j = i := by simpa using e
          subst e
          by_cases hsj : s = j
          · left; simpa using hsj
          · exact .inr (hus s hs hsj)
        · exact .inr (I.use j s e hs)
      · have : (fun j => (listed.setIfInBounds i true).getD j false) = fun j => j == i || listed.getD j false := funext hli
        rw [this]; exact hJ
      · have hm : i ∈ (List.range l.toArray.size).filter (fun i => !listed.getD i false) := List.mem_filter.2 ⟨List.mem_range.2 hlt, by rw [h1]; rfl⟩
        have hlt2 : ((List.range l.toArray.size).filter (fun j => !(listed.setIfInBounds i true).getD j false)).length < ((List.range l.toArray.size).filter (fun i => !listed.getD i false)).length := by
          have e : (List.range l.toArray.size).filter (fun j => !(listed.setIfInBounds i true).getD j false) = ((List.range l.toArray.size).filter (fun i => !listed.getD i false)).filter (fun j => j != i) := by
            rw [List.filter_filter]
            refine List.filter_congr fun j _ => ?_
            rw [hli]
            cases h : (j == i) <;> simp [bne, h]
          rw [e]
          exact List.length_filter_lt_length_iff_exists.2 ⟨i, hm, by simp⟩
        omega
    have hst := hS i o hol (fun j => listed.getD j false) ρ W I.word h1 hdep I.use hus (fun j o' hj hl k hk => I.down j o' (by simpa using hj) hl k hk)
    unfold wpOpIn
    rw [ho]
    simp only
    rw [if_pos (by simp [Region.wanted, A.g])]
    refine ⟨fun f _ => trivial, ?_⟩
    rw [Oper.semAt_plain Fence.wide _ _ (by intro cc e; have := A.p; unfold plainDS at this; rw [e] at this; cases this), hex]
    rcases hst with ⟨nx, v, W', hr, hnx, hJ, hdst⟩ | ⟨f, args, W1, hr, hc⟩
    · rw [hr]
      have := hgo v W' _ rfl hJ hdst
      rcases hnx with rfl | ⟨rfl, rfl⟩
      · exact this
      · exact this
    · rw [hr]
      refine ⟨fun e => (by cases e), callsIn_wide.2 (hc.mono ?_)⟩
      rintro e W' ⟨v, rfl, hJ, hdst⟩
      exact hgo v W' _ rfl hJ hdst

/-- The law in full. -/
theorem wpIn_region_flow {id : Nat} {w : World} (ρ0 : Nat → Value) (hm : P.follows .mixedOrders = true) (hB : flowB l.toArray U E = true) (hU : vs.map useV = U)
    (hS : ∀ (i : Nat) (o : Oper), l[i]? = some o → ∀ f ρ W, J f ρ W → f i = false → (∀ j, depOn o j = true → f j = true) → (∀ j s, f j = true → U[j]? = some (some s) → f s = true) → (∀ s, U[i]? = some (some s) → s ≠ i → f s = true) → (∀ (j : Nat) (o' : Oper), l[j]? = some o' → f j = true → ∀ k, depOn o' k = true → f k = true) →
      flowS P (fun ρ => if E.getD i false then a0 else putAll l (vs.map (valV ρ)) a0) (fun ρ => putAll l (vs.map (valV ρ)) a0) o i (J fun j => j == i || f j) (U[i]? == some (some i)) ρ W)
    (h0 : J (fun _ => false) ρ0 w.drew) (hQ : ∀ f ρ W, J f ρ W → (∀ i, i < l.length → f i = true) → Q .normal (putAll l (vs.map (valV ρ)) a0) W) : (Code.region id l.toArray true).wpIn Fence.wide d P Q a0 w := by
  refine wpIn_region_any hm ?_
  have hz : ∀ j, (Array.replicate l.toArray.size false).getD j false = false := fun j => by
    rw [Array.getD_eq_getD_getElem?, Array.getElem?_replicate]; split <;> rfl
  refine wpAnyIn_flow (d := d) hB hU hS hQ l.toArray.size (Array.replicate l.toArray.size false) a0 w.drew ρ0 ⟨by simp, rfl, rfl, fun i o _ h => (by rw [hz] at h; cases h), fun t ht => ?_, fun t _ => rfl, fun i s h _ => (by rw [hz] at h; cases h), ?_⟩ ?_
  · rw [putAll_other]
    intro o ho e
    obtain ⟨j, hj, rfl⟩ := List.mem_iff_getElem.1 ho
    have := ht j (by unfold slotOf; simp [hj, e])
    rw [hz] at this; cases this
  · have : (fun j => (Array.replicate l.toArray.size false).getD j false) = fun _ => false := funext hz
    rw [this]; exact h0
  · refine Nat.le_trans (List.length_filter_le _ _) ?_
    simp
end
end Go.Proofs.YtaekdnfpgkfjkaaDoor
