/- A region that draws its order, whose operations come to the same in every order: the law with the end written out, inside any fence. -/
import Derived.Test.YtaekdnfpgkfjkaaDoorMidIn
import Derived.OwnWalkIn
namespace Go.Proofs.YtaekdnfpgkfjkaaDoor
open Go.RowKit

section
variable {ops : Array Oper}
def depOn (o : Oper) (j : Nat) : Bool := o.after.any fun e => Region.binds .any e && e.on == j
def plainDS (o : Oper) : Bool := match o.op with
  | .defer _ => false
  | .select _ _ => false
  | _ => true
def slotOf (ops : Array Oper) (j : Nat) : Option Tmp := (ops[j]?).bind (·.dst)
def reads1 (ops : Array Oper) (o : Oper) : Bool := o.op.operands.toList.all fun x => match x with
  | .tmp t => (List.range ops.size).all fun j => slotOf ops j != some t || depOn o j
  | _ => true
/-- Its operands are as they were at the start: what writes them waits for it. -/
def readsA (ops : Array Oper) (i : Nat) (o : Oper) : Bool := o.op.operands.toList.all fun x => match x with
  | .tmp t => (List.range ops.size).all fun j => slotOf ops j != some t || (match ops[j]? with | some oj => depOn oj i | none => true)
  | _ => true
def writes1 (ops : Array Oper) (i : Nat) (o : Oper) : Bool := match o.dst with
  | none => true
  | some d => (List.range ops.size).all fun j => j == i || slotOf ops j != some d
/-- K: of each operation: in which world it stands (an act: the world that it turns), or up to which world it may come (a reading). -/
def worlds1 (ops : Array Oper) (K : List (Nat × Bool)) (r i : Nat) (o : Oper) : Bool := match K[i]? with
  | none => false
  | some (k, true) => decide (k < r) && (List.range ops.size).all fun j => match K[j]? with
      | some (k', true) => j == i || (k' != k && (k' + 1 != k || depOn o j))
      | _ => true
  | some (k, false) => decide (k ≤ r) && (List.range ops.size).all fun j => match K[j]?, ops[j]? with
      | some (k', true), some oj => k' != k || depOn oj i
      | _, _ => true
def fixB (ops : Array Oper) (K : List (Nat × Bool)) (E : List Bool) (r : Nat) : Bool :=
  ((List.range ops.size).all fun i => match ops[i]? with
    | none => false
    | some o => o.guard.isNone && plainDS o && (o.after.all fun e => !Region.binds .any e || decide (e.on < i)) && (if E.getD i false then readsA ops i o else reads1 ops o) && writes1 ops i o && worlds1 ops K r i o) &&
  (List.range r).all fun k => (List.range ops.size).any fun j => K[j]? == some (k, true)

structure FixAt (ops : Array Oper) (K : List (Nat × Bool)) (E : List Bool) (r i : Nat) (o : Oper) : Prop where
  g : o.guard = none
  p : plainDS o = true
  lo : ∀ e ∈ o.after, Region.binds .any e = true → e.on < i
  rd : (if E.getD i false then readsA ops i o else reads1 ops o) = true
  wr : writes1 ops i o = true
  wd : worlds1 ops K r i o = true
theorem fixB_at {K : List (Nat × Bool)} {E : List Bool} {r : Nat} (h : fixB ops K E r = true) {i : Nat} {o : Oper} (ho : ops[i]? = some o) : FixAt ops K E r i o := by
  unfold fixB at h
  rw [Bool.and_eq_true] at h
  have hi : i < ops.size := (Array.getElem?_eq_some_iff.1 ho).1
  have := List.all_eq_true.1 h.1 i (List.mem_range.2 hi)
  rw [ho] at this
  simp only [Bool.and_eq_true] at this
  obtain ⟨⟨⟨⟨⟨h1, h2⟩, h3⟩, h4⟩, h5⟩, h6⟩ := this
  refine ⟨by simpa using h1, h2, fun e he hb => ?_, h4, h5, h6⟩
  have := Array.all_eq_true_iff_forall_mem.1 h3 e he
  simpa [hb] using this
theorem fixB_ex {K : List (Nat × Bool)} {E : List Bool} {r : Nat} (h : fixB ops K E r = true) {k : Nat} (hk : k < r) : ∃ (j : Nat) (o : Oper), ops[j]? = some o ∧ K[j]? = some (k, true) := by
  unfold fixB at h
  rw [Bool.and_eq_true] at h
  have := List.all_eq_true.1 h.2 k (List.mem_range.2 hk)
  obtain ⟨j, hj, hk2⟩ := List.any_eq_true.1 this
  have hj := List.mem_range.1 hj
  exact ⟨j, ops[j], Array.getElem?_eq_getElem hj, by simpa using hk2⟩
theorem depOn_ready {listed : Array Bool} {i j : Nat} {o : Oper} (hi : i ∈ Region.ready .any ops listed) (ho : ops[i]? = some o) (hd : depOn o j = true) : listed.getD j false = true := by
  obtain ⟨_, o', ho', h⟩ := mem_ready.1 hi
  rw [ho] at ho'
  injection ho' with ho'
  subst ho'
  unfold depOn at hd
  obtain ⟨e, he, hb⟩ : ∃ e ∈ o.after, (Region.binds .any e && e.on == j) = true := by
    rw [← Array.any_toList] at hd
    obtain ⟨e, he, hb⟩ := List.any_eq_true.1 hd
    exact ⟨e, by simpa using he, hb⟩
  rw [Bool.and_eq_true] at hb
  have := h e he hb.1
  have e2 : e.on = j := by simpa using hb.2
  rwa [e2] at this

/-- What holds while a part of the region has run: the frame is the last one where it has been written, the world is as many acts on. -/
structure FixInv (ops : Array Oper) (K : List (Nat × Bool)) (a0 b : Act) (listed : Array Bool) (a : Act) (c : Nat) : Prop where
  size : listed.size = ops.size
  tsize : a.tmps.size = b.tmps.size
  defers : a.defers = b.defers
  down : ∀ i o, ops[i]? = some o → listed.getD i false = true → ∀ j, depOn o j = true → listed.getD j false = true
  slots : ∀ t, (∀ j, slotOf ops j = some t → listed.getD j false = true) → a.tmps[t]? = b.tmps[t]?
  orig : ∀ t, (∀ j, slotOf ops j = some t → listed.getD j false = false) → a.tmps[t]? = a0.tmps[t]?
  acts : ∀ j k, K[j]? = some (k, true) → j < ops.size → (listed.getD j false = true ↔ k < c)
end

/-- Of one operation: what it comes to, in each world in which it may come. -/
def runs1 (P : Program) (fr b : Act) (W : Nat → World) (o : Oper) (k : Nat × Bool) : Prop :=
  ∀ c, (if k.2 then c = k.1 else c ≤ k.1) → ∃ nx v, (execOp fr.eval o).run P (W c) = .ok nx (W (if k.2 then c + 1 else c)) ∧ (nx = .value v ∨ nx = .skip ∧ v = undef) ∧ ∀ d, o.dst = some d → b.tmps[d]? = some v

theorem getD_tf {listed : Array Bool} {i : Nat} (hi : i < listed.size) : listed.getD i true = listed.getD i false := by
  simp [Array.getD_eq_getD_getElem?, Array.getElem?_eq_getElem hi]

theorem eval_same {a b : Act} {x : Operand} (h : ∀ t, x = .tmp t → a.tmps[t]? = b.tmps[t]?) : a.eval x = b.eval x := by
  cases x with
  | tmp t =>
    have := h t rfl
    simp only [Act.eval, Array.getD_eq_getD_getElem?, this]
  | _ => rfl

def putAll : List Oper → List Value → Act → Act
  | o :: l, v :: vs, a => putAll l vs (a.put o.dst v)
  | _, _, a => a
theorem put_size (a : Act) (d : Option Tmp) (v : Value) : (a.put d v).tmps.size = a.tmps.size := by cases d <;> simp [Act.put]
theorem put_defers (a : Act) (d : Option Tmp) (v : Value) : (a.put d v).defers = a.defers := by cases d <;> rfl
theorem put_other (a : Act) (d : Option Tmp) (v : Value) (t : Tmp) (h : d ≠ some t) : (a.put d v).tmps[t]? = a.tmps[t]? := by
  cases d with
  | none => rfl
  | some d =>
    have hne : d ≠ t := fun e => h (by rw [e])
    simp [Act.put, Array.getElem?_setIfInBounds_ne hne]
theorem putAll_size : ∀ (l : List Oper) (vs : List Value) (a : Act), (putAll l vs a).tmps.size = a.tmps.size
  | [], _, _ => rfl
  | _ :: _, [], _ => rfl
  | o :: l, v :: vs, a => by unfold putAll; rw [putAll_size l vs, put_size]
theorem putAll_defers : ∀ (l : List Oper) (vs : List Value) (a : Act), (putAll l vs a).defers = a.defers
  | [], _, _ => rfl
  | _ :: _, [], _ => rfl
  | o :: l, v :: vs, a => by unfold putAll; rw [putAll_defers l vs, put_defers]
theorem putAll_other {t : Tmp} : ∀ (l : List Oper) (vs : List Value) (a : Act), (∀ o ∈ l, o.dst ≠ some t) → (putAll l vs a).tmps[t]? = a.tmps[t]?
  | [], _, _, _ => rfl
  | _ :: _, [], _, _ => rfl
  | o :: l, v :: vs, a, h => by
    unfold putAll
    rw [putAll_other l vs _ (fun o' ho => h o' (List.mem_cons_of_mem _ ho)), put_other _ _ _ _ (h o List.mem_cons_self)]

section
variable {F : Fence} {d : Nat} {P : Program} {ops : Array Oper} {K : List (Nat × Bool)} {E : List Bool} {r : Nat} {a0 b : Act} {W : Nat → World} {Q : Exit → Act → World → Prop}
theorem all_listed {listed : Array Bool} (hB : fixB ops K E r = true) (hs : listed.size = ops.size) (h : Region.ready .any ops listed = []) : ∀ (m i : Nat), i < m → i < ops.size → listed.getD i false = true
  | 0, i, h0, _ => by omega
  | m + 1, i, hi, hl => by
    by_cases hn : listed.getD i false = true
    · exact hn
    · exfalso
      have hr : i ∈ Region.ready .any ops listed := by
        refine mem_ready.2 ⟨by rw [getD_tf (by omega)]; simpa using hn, ops[i], Array.getElem?_eq_getElem hl, fun e he hb => ?_⟩
        have he2 := (fixB_at hB (Array.getElem?_eq_getElem hl)).lo e he hb
        exact all_listed hB hs h m e.on (by omega) (by omega)
      rw [h] at hr
      cases hr
theorem wpAnyIn_fixed (hF : ∀ f, F.fn f) (hB : fixB ops K E r = true) (hR : ∀ (i : Nat) (o : Oper) (k : Nat × Bool), ops[i]? = some o → K[i]? = some k → runs1 P (if E.getD i false then a0 else b) b W o k) (hQ : Q .normal b (W r)) :
    ∀ (fuel : Nat) (listed : Array Bool) (a : Act) (c : Nat), c ≤ r → FixInv ops K a0 b listed a c → ((List.range ops.size).filter (fun i => !listed.getD i false)).length ≤ fuel →
      wpAnyIn F d P .any ops Q fuel listed a (W c) := by
  have hend : ∀ (listed : Array Bool) (a : Act) (c : Nat), c ≤ r → FixInv ops K a0 b listed a c → Region.ready .any ops listed = [] → Q .normal a (W c) := by
    intro listed a c hc I h
    have hall := all_listed hB I.size h ops.size
    have ha : a = b := by
      have : a.tmps = b.tmps := by
        refine Array.ext I.tsize fun t h1 h2 => ?_
        have := I.slots t (fun j hj => hall j (by
          unfold slotOf at hj
          rcases hx : ops[j]? with _ | o
          · rw [hx] at hj; cases hj
          · exact (Array.getElem?_eq_some_iff.1 hx).1) (by
          unfold slotOf at hj
          rcases hx : ops[j]? with _ | o
          · rw [hx] at hj; cases hj
          · exact (Array.getElem?_eq_some_iff.1 hx).1))
        rw [Array.getElem?_eq_getElem h1, Array.getElem?_eq_getElem h2] at this
        exact Option.some.inj this
      have h3 := I.defers
      cases a; cases b
      simp only at this h3
      subst this h3
      rfl
    have hcr : c = r := by
      rcases Nat.lt_or_ge c r with h1 | h1
      · obtain ⟨j, o, hj, hk⟩ := fixB_ex hB h1
        have hl := (Array.getElem?_eq_some_iff.1 hj).1
        have := (I.acts j c hk hl).1 (hall j hl hl)
        omega
      · omega
    rw [ha, hcr]; exact hQ
  intro fuel
  induction fuel with
  | zero =>
    intro listed a c hc I hf
    have h0 : Region.ready .any ops listed = [] := by
      rcases h : Region.ready .any ops listed with _ | ⟨i, rs⟩
      · rfl
      · exfalso
        have hi : i ∈ Region.ready .any ops listed := by rw [h]; exact List.mem_cons_self
        obtain ⟨h1, o, ho, _⟩ := mem_ready.1 hi
        have hlt := (Array.getElem?_eq_some_iff.1 ho).1
        rw [getD_tf (by rw [I.size]; exact hlt)] at h1
        have hm : i ∈ (List.range ops.size).filter (fun i => !listed.getD i false) := List.mem_filter.2 ⟨List.mem_range.2 hlt, by rw [h1]; rfl⟩
        have := List.length_pos_of_mem hm
        omega
    exact ⟨h0, hend listed a c hc I h0⟩
  | succ fuel ih =>
    intro listed a c hc I hf
    refine ⟨hend listed a c hc I, fun i hi => ?_⟩
    obtain ⟨h1, o, ho, _⟩ := mem_ready.1 hi
    have hlt := (Array.getElem?_eq_some_iff.1 ho).1
    rw [getD_tf (by rw [I.size]; exact hlt)] at h1
    have A := fixB_at hB ho
    -- the frame that it sees
    have hex : execOp a.eval o = execOp (if E.getD i false then a0 else b).eval o := by
      refine execOp_congr o (fun cs bb e => by have := A.p; unfold plainDS at this; rw [e] at this; cases this) fun x hx => eval_same fun t ht => ?_
      subst ht
      have hArd := A.rd
      rcases hEi : E.getD i false with _ | _
      case true =>
        rw [hEi, if_pos rfl] at hArd
        rw [if_pos rfl]
        refine I.orig t fun j hj => ?_
        have hjl : j < ops.size := by
          unfold slotOf at hj
          rcases hx : ops[j]? with _ | o'
          · rw [hx] at hj; cases hj
          · exact (Array.getElem?_eq_some_iff.1 hx).1
        have := List.all_eq_true.1 hArd (.tmp t) (by simpa using hx)
        simp only at this
        have := List.all_eq_true.1 this j (List.mem_range.2 hjl)
        rw [Bool.or_eq_true] at this
        rcases this with h | h
        · simp [hj] at h
        · rw [Array.getElem?_eq_getElem hjl] at h
          simp only at h
          rcases hlj : listed.getD j false with _ | _
          · rfl
          · have := I.down j ops[j] (Array.getElem?_eq_getElem hjl) hlj i h
            rw [this] at h1; cases h1
      rw [hEi, if_neg (by decide)] at hArd
      rw [if_neg (by decide)]
      refine I.slots t fun j hj => ?_
      have hjl : j < ops.size := by
        unfold slotOf at hj
        rcases hx : ops[j]? with _ | o'
        · rw [hx] at hj; cases hj
        · exact (Array.getElem?_eq_some_iff.1 hx).1
      have := List.all_eq_true.1 hArd (.tmp t) (by simpa using hx)
      simp only at this
      have := List.all_eq_true.1 this j (List.mem_range.2 hjl)
      rw [Bool.or_eq_true] at this
      rcases this with h | h
      · simp [hj] at h
      · exact depOn_ready hi ho h
    -- the world in which it stands
    have hwd := A.wd
    unfold worlds1 at hwd
    rcases hk : K[i]? with _ | ⟨k, eff⟩
    · rw [hk] at hwd; cases hwd
    rw [hk] at hwd
    have hrun := hR i o _ ho hk c
    have hcond : (if eff = true then c = k else c ≤ k) := by
      cases eff with
      | true =>
        simp only [Bool.and_eq_true, decide_eq_true_eq] at hwd
        obtain ⟨hkr, hall⟩ := hwd
        have h2 : ¬ k < c := fun h => by
          have := (I.acts i k hk hlt).2 h
          rw [this] at h1; cases h1
        rcases Nat.lt_or_ge c k with h3 | h3
        · exfalso
          obtain ⟨j, oj, hj, hkj⟩ := fixB_ex hB (show k - 1 < r by omega)
          have hjl := (Array.getElem?_eq_some_iff.1 hj).1
          have := List.all_eq_true.1 hall j (List.mem_range.2 hjl)
          rw [hkj] at this
          simp only [Bool.or_eq_true, Bool.and_eq_true] at this
          rcases this with h | ⟨_, h | h⟩
          · have : j = i := by simpa using h
            subst this; rw [hk] at hkj; injection hkj with hkj; injection hkj with hkj; omega
          · simp at h; omega
          · have := (I.acts j (k - 1) hkj hjl).1 (depOn_ready hi ho h)
            omega
        · simp; omega
      | false =>
        simp only [Bool.and_eq_true, decide_eq_true_eq] at hwd
        obtain ⟨hkr, hall⟩ := hwd
        rcases Nat.lt_or_ge k c with h3 | h3
        · exfalso
          obtain ⟨j, oj, hj, hkj⟩ := fixB_ex hB (show k < r by omega)
          have hjl := (Array.getElem?_eq_some_iff.1 hj).1
          have := List.all_eq_true.1 hall j (List.mem_range.2 hjl)
          rw [hkj, hj] at this
          simp only [Bool.or_eq_true] at this
          rcases this with h | h
          · simp at h
          · have hlj := (I.acts j k hkj hjl).2 h3
            have := I.down j oj hj hlj i h
            rw [this] at h1; cases h1
        · simpa using h3
    obtain ⟨nx, v, hv, hnx, hvb⟩ := hrun (by simpa using hcond)
    simp only at hv
    unfold wpOpIn
    rw [ho]
    simp only
    rw [if_pos (by simp [Region.wanted, A.g])]
    refine ⟨fun f _ => hF f, ?_⟩
    rw [Oper.semAt_plain F _ _ (by intro cc e; have := A.p; unfold plainDS at this; rw [e] at this; cases this), hex, hv]
    suffices hgo : wpAnyIn F d P .any ops Q fuel (listed.setIfInBounds i true) (a.put o.dst v) (W (if eff = true then c + 1 else c)) by
      rcases hnx with rfl | ⟨rfl, rfl⟩
      · exact hgo
      · exact hgo
    show wpAnyIn F d P .any ops Q fuel (listed.setIfInBounds i true) (a.put o.dst v) (W (if eff = true then c + 1 else c))
    have hli : ∀ j, (listed.setIfInBounds i true).getD j false = true ↔ j = i ∨ listed.getD j false = true := by
      intro j
      by_cases hj : i = j
      · subst hj
        simp [I.size, hlt]
      · rw [getD_set_ne false hj]
        exact ⟨.inr, fun h => h.resolve_left (fun e => hj e.symm)⟩
    refine ih _ _ _ ?_ ⟨by simpa using I.size, by rw [put_size]; exact I.tsize, by rw [put_defers]; exact I.defers, ?_, ?_, ?_, ?_⟩ ?_
    · cases eff with
      | true =>
        simp only [Bool.and_eq_true, decide_eq_true_eq] at hwd
        have := hwd.1
        simp at hcond; simp; omega
      | false => simpa using hc
    · intro i' o' ho' hl' j hd
      rcases (hli i').1 hl' with e | e
      · subst e
        rw [ho] at ho'; injection ho' with ho'; subst ho'
        exact (hli j).2 (.inr (depOn_ready hi ho hd))
      · exact (hli j).2 (.inr (I.down i' o' ho' e j hd))
    · intro t ht
      by_cases hd : o.dst = some t
      · rw [hd]
        have hb := hvb t hd
        have hts : t < a.tmps.size := by rw [I.tsize]; exact (Array.getElem?_eq_some_iff.1 hb).1
        rw [hb]
        simp [Act.put, hts]
      · rw [put_other _ _ _ _ hd]
        refine I.slots t fun j hj => ?_
        rcases (hli j).1 (ht j hj) with e | e
        · subst e
          exfalso; unfold slotOf at hj; rw [ho] at hj; exact hd hj
        · exact e
    · intro t ht
      have hdt : o.dst ≠ some t := fun e => by
        have h5 := ht i (by unfold slotOf; rw [ho]; exact e)
        have h6 := (hli i).2 (.inl rfl)
        rw [h5] at h6; cases h6
      rw [put_other _ _ _ _ hdt]
      refine I.orig t fun j hj => ?_
      have h5 := ht j hj
      rcases hlj : listed.getD j false with _ | _
      · rfl
      · rw [(hli j).2 (.inr hlj)] at h5; cases h5
    · intro j k' hkj hjl
      rw [hli j]
      cases eff with
      | true =>
        simp at hcond
        subst hcond
        simp only [if_true]
        constructor
        · rintro (e | e)
          · subst e; rw [hk] at hkj; injection hkj with hkj; injection hkj with hkj; omega
          · have := (I.acts j k' hkj hjl).1 e; omega
        · intro h
          rcases Nat.lt_or_ge k' c with h3 | h3
          · exact .inr ((I.acts j k' hkj hjl).2 h3)
          · have hk' : k' = c := by omega
            subst hk'
            simp only [Bool.and_eq_true, decide_eq_true_eq] at hwd
            have := List.all_eq_true.1 hwd.2 j (List.mem_range.2 hjl)
            rw [hkj] at this
            simp only [Bool.or_eq_true, Bool.and_eq_true] at this
            rcases this with h | ⟨h, _⟩
            · left; simpa using h
            · simp at h
      | false =>
        simp only [Bool.false_eq_true, if_false]
        constructor
        · rintro (e | e)
          · subst e; rw [hk] at hkj; injection hkj with hkj; injection hkj with _ hkj; cases hkj
          · exact (I.acts j k' hkj hjl).1 e
        · exact fun h => .inr ((I.acts j k' hkj hjl).2 h)
    · have hm : i ∈ (List.range ops.size).filter (fun i => !listed.getD i false) := List.mem_filter.2 ⟨List.mem_range.2 hlt, by rw [h1]; rfl⟩
      have hlt2 : ((List.range ops.size).filter (fun j => !(listed.setIfInBounds i true).getD j false)).length < ((List.range ops.size).filter (fun i => !listed.getD i false)).length := by
        have e : (List.range ops.size).filter (fun j => !(listed.setIfInBounds i true).getD j false) = ((List.range ops.size).filter (fun i => !listed.getD i false)).filter (fun j => j != i) := by
          rw [List.filter_filter]
          refine List.filter_congr fun j _ => ?_
          by_cases hj : j = i
          · subst hj
            have := (hli j).2 (.inl rfl)
            rw [this]; simp
          · have : (listed.setIfInBounds i true).getD j false = listed.getD j false := getD_set_ne false (Ne.symm hj)
            rw [this]
            simp [hj]
        rw [e]
        exact List.length_filter_lt_length_iff_exists.2 ⟨i, hm, by simp⟩
      omega

def runsL (P : Program) (a0 b : Act) (W : Nat → World) : List Oper → List (Nat × Bool) → List Bool → Prop
  | o :: l, k :: K, e :: E => runs1 P (if e then a0 else b) b W o k ∧ runsL P a0 b W l K E
  | o :: l, k :: K, [] => runs1 P b b W o k ∧ runsL P a0 b W l K []
  | _, _, _ => True
theorem runs_all {P : Program} {a0 b : Act} {W : Nat → World} : ∀ {l : List Oper} {K : List (Nat × Bool)} {E : List Bool}, runsL P a0 b W l K E → ∀ (i : Nat) (o : Oper) (k : Nat × Bool), l[i]? = some o → K[i]? = some k → runs1 P (if E.getD i false then a0 else b) b W o k
  | [], _, _, _, i, o, k, h, _ => by simp at h
  | _ :: _, [], _, _, i, o, k, _, h => by simp at h
  | o' :: l, k' :: K, e :: E, h, 0, o, k, h1, h2 => by
    have e1 : o' = o := by simpa using h1
    have e2 : k' = k := by simpa using h2
    subst e1 e2
    exact h.1
  | o' :: l, k' :: K, [], h, 0, o, k, h1, h2 => by
    have e1 : o' = o := by simpa using h1
    have e2 : k' = k := by simpa using h2
    subst e1 e2
    exact h.1
  | o' :: l, k' :: K, e :: E, h, i + 1, o, k, h1, h2 => runs_all h.2 i o k (by simpa using h1) (by simpa using h2)
  | o' :: l, k' :: K, [], h, i + 1, o, k, h1, h2 => runs_all (E := []) h.2 i o k (by simpa using h1) (by simpa using h2)
/-- A reading in the first world, in the first two, in the first three; an act. -/
theorem runs1_r0 {P : Program} {fr b : Act} {W : Nat → World} {o : Oper} (v : Value) (h : (execOp fr.eval o).run P (W 0) = .ok (.value v) (W 0)) (hd : ∀ d, o.dst = some d → b.tmps[d]? = some v) : runs1 P fr b W o (0, false) := by
  intro c hc
  obtain rfl : c = 0 := by simpa using hc
  exact ⟨_, v, h, .inl rfl, hd⟩
theorem runs1_r1 {P : Program} {fr b : Act} {W : Nat → World} {o : Oper} (v : Value) (h : (execOp fr.eval o).run P (W 0) = .ok (.value v) (W 0)) (h1 : (execOp fr.eval o).run P (W 1) = .ok (.value v) (W 1)) (hd : ∀ d, o.dst = some d → b.tmps[d]? = some v) : runs1 P fr b W o (1, false) := by
  intro c hc
  have hc : c ≤ 1 := by simpa using hc
  rcases c with _ | _ | c
  · exact ⟨_, v, h, .inl rfl, hd⟩
  · exact ⟨_, v, h1, .inl rfl, hd⟩
  · omega
theorem runs1_r2 {P : Program} {fr b : Act} {W : Nat → World} {o : Oper} (v : Value) (h : (execOp fr.eval o).run P (W 0) = .ok (.value v) (W 0)) (h1 : (execOp fr.eval o).run P (W 1) = .ok (.value v) (W 1)) (h2 : (execOp fr.eval o).run P (W 2) = .ok (.value v) (W 2)) (hd : ∀ d, o.dst = some d → b.tmps[d]? = some v) : runs1 P fr b W o (2, false) := by
  intro c hc
  have hc : c ≤ 2 := by simpa using hc
  rcases c with _ | _ | _ | c
  · exact ⟨_, v, h, .inl rfl, hd⟩
  · exact ⟨_, v, h1, .inl rfl, hd⟩
  · exact ⟨_, v, h2, .inl rfl, hd⟩
  · omega
theorem runs1_e {P : Program} {fr b : Act} {W : Nat → World} {o : Oper} {k : Nat} (v : Value) (h : (execOp fr.eval o).run P (W k) = .ok (.value v) (W (k + 1))) (hd : ∀ d, o.dst = some d → b.tmps[d]? = some v) : runs1 P fr b W o (k, true) := by
  intro c hc
  obtain rfl : c = k := by simpa using hc
  exact ⟨_, v, h, .inl rfl, hd⟩

/-- On slots alone: in whatever world. -/
theorem runs1_any {P : Program} {fr b : Act} {W : Nat → World} {o : Oper} {k : Nat} (v : Value) (h : ∀ w, (execOp fr.eval o).run P w = .ok (.value v) w) (hd : ∀ d, o.dst = some d → b.tmps[d]? = some v) : runs1 P fr b W o (k, false) := by
  intro c hc
  exact ⟨_, v, h _, .inl rfl, hd⟩
/-- A store. -/
theorem runs1_s {P : Program} {fr b : Act} {W : Nat → World} {o : Oper} {k : Nat} (h : (execOp fr.eval o).run P (W k) = .ok .skip (W (k + 1))) (hd : o.dst = none) : runs1 P fr b W o (k, true) := by
  intro c hc
  obtain rfl : c = k := by simpa using hc
  exact ⟨_, undef, h, .inr ⟨rfl, rfl⟩, fun d e => by rw [hd] at e; cases e⟩

/-- The law: the end written out. -/
theorem wpIn_region_fixed {id : Nat} {l : List Oper} {vs : List Value} {w : World} (hF : ∀ f, F.fn f) (hm : P.follows .mixedOrders = true) (hB : fixB l.toArray K E r = true) (h0 : W 0 = w.drew) (_hl : K.length = l.length)
    (hR : ∀ (i : Nat) (o : Oper) (k : Nat × Bool), l[i]? = some o → K[i]? = some k → runs1 P (if E.getD i false then a0 else putAll l vs a0) (putAll l vs a0) W o k) (hQ : Q .normal (putAll l vs a0) (W r)) : (Code.region id l.toArray true).wpIn F d P Q a0 w := by
  refine wpIn_region_any hm ?_
  have hz : ∀ j, (Array.replicate l.toArray.size false).getD j false = false := fun j => by
    rw [Array.getD_eq_getD_getElem?, Array.getElem?_replicate]; split <;> rfl
  have := wpAnyIn_fixed (F := F) (d := d) (a0 := a0) (b := putAll l vs a0) (W := W) (Q := Q) (P := P) hF hB (fun i o k ho hk => hR i o k (by simpa using ho) hk) hQ l.toArray.size (Array.replicate l.toArray.size false) a0 0 (Nat.zero_le _)
    ⟨by simp, (putAll_size _ _ _).symm, (putAll_defers _ _ _).symm, fun i o _ h => (by rw [hz] at h; cases h), fun t ht => ?_, fun t _ => rfl, fun j k _ _ => (by rw [hz]; simp)⟩ ?_
  · rw [h0] at this
    exact this
  · rw [putAll_other]
    intro o ho e
    obtain ⟨j, hj, rfl⟩ := List.mem_iff_getElem.1 ho
    have := ht j (by unfold slotOf; simp [hj, e])
    rw [hz] at this; cases this
  · refine Nat.le_trans (List.length_filter_le _ _) ?_
    simp
end
end Go.Proofs.YtaekdnfpgkfjkaaDoor
