/- A step of the stack, as a plain function; what holds of every stack. -/
import Derived.Test.YtpdackbcnbhppaaS1
namespace Go.Proofs.Ytpdackbcnbhppaa

structure SS where
  l : List Ent
  i : Int
  m : Int
  v : Int
structure Out where
  s : SS
  lv : Int
  cl : Int
  k : Bool

def embS (c : Int) (s : SS) (e : Ent) (odd : Bool) (ov : Int) : Out :=
  if nextLv odd e.lv ≤ 125 ∧ s.i = 0 ∧ s.m = 0 then ⟨⟨⟨nextLv odd e.lv, ov, false⟩ :: s.l, s.i, s.m, s.v⟩, -1, c, false⟩
  else ⟨⟨s.l, s.i, if s.i = 0 then s.m + 1 else s.m, s.v⟩, -1, c, false⟩
def isoS (c : Int) (s : SS) (e : Ent) (odd : Bool) : Out :=
  if nextLv odd e.lv ≤ 125 ∧ s.i = 0 ∧ s.m = 0 then ⟨⟨⟨nextLv odd e.lv, 0, true⟩ :: s.l, s.i, s.m, s.v + 1⟩, e.lv, plainCls c e.ov, true⟩
  else ⟨⟨s.l, s.i + 1, s.m, s.v⟩, e.lv, plainCls c e.ov, true⟩
def pdiS (s : SS) (e : Ent) : Out :=
  if 0 < s.i then ⟨⟨s.l, s.i - 1, s.m, s.v⟩, e.lv, plainCls 23 e.ov, true⟩
  else if 0 < s.v then
    match popTo s.l with
    | [] => ⟨s, 0, 0, true⟩
    | e' :: l' => ⟨⟨e' :: l', s.i, 0, s.v - 1⟩, e'.lv, plainCls 23 e'.ov, true⟩
  else ⟨s, e.lv, plainCls 23 e.ov, true⟩
def pdfS (s : SS) (e : Ent) : Out :=
  if 0 < s.i then ⟨s, -1, 19, false⟩
  else if 0 < s.m then ⟨⟨s.l, s.i, s.m - 1, s.v⟩, -1, 19, false⟩
  else if e.iso = true then ⟨s, -1, 19, false⟩
  else match s.l with
    | _ :: e' :: l' => ⟨⟨e' :: l', s.i, s.m, s.v⟩, -1, 19, false⟩
    | _ => ⟨s, -1, 19, false⟩
def stepS (base : Int) (s : SS) (c auto : Int) : Out :=
  match s.l with
  | [] => ⟨s, -1, 0, false⟩
  | e :: _ =>
    if c = 17 then embS c s e true 0 else if c = 18 then embS c s e true 2 else if c = 15 then embS c s e false 0 else if c = 16 then embS c s e false 1
    else if c = 21 then isoS c s e true else if c = 20 then isoS c s e false else if c = 22 then isoS c s e (auto == 1)
    else if c = 23 then pdiS s e
    else if c = 19 then pdfS s e
    else if c = 10 then ⟨s, -1, 10, false⟩
    else if c = 11 then ⟨⟨[⟨base, 0, false⟩], 0, 0, 0⟩, base, 11, true⟩
    else ⟨s, e.lv, plainCls c e.ov, true⟩

/-- A stack's entries: levels rise from the base up to 125. -/
def Ents (base : Int) : List Ent → Prop
  | [] => False
  | [e] => e = ⟨base, 0, false⟩
  | e :: e' :: l => e'.lv < e.lv ∧ e.lv ≤ 125 ∧ (e.ov = 0 ∨ e.ov = 1 ∨ e.ov = 2) ∧ Ents base (e' :: l)
def isos : List Ent → Int
  | [] => 0
  | e :: l => (if e.iso = true then 1 else 0) + isos l
structure WF (base : Int) (s : SS) : Prop where
  hb : base = 0 ∨ base = 1
  ents : Ents base s.l
  i0 : 0 ≤ s.i
  m0 : 0 ≤ s.m
  v0 : s.v = isos s.l

theorem isos_nonneg (l : List Ent) : 0 ≤ isos l := by
  induction l with
  | nil => simp [isos]
  | cons e l ih => simp only [isos]; split <;> omega
theorem isos_le (l : List Ent) : isos l ≤ l.length := by
  induction l with
  | nil => simp [isos]
  | cons e l ih => simp only [isos, List.length_cons]; split <;> omega
theorem isos_pos {l : List Ent} (h : 0 < isos l) : ∃ e ∈ l, e.iso = true := by
  induction l with
  | nil => simp [isos] at h
  | cons e l ih =>
    by_cases he : e.iso = true
    · exact ⟨e, by simp, he⟩
    · simp only [isos, he] at h
      obtain ⟨x, hx, hi⟩ := ih (by simpa using h)
      exact ⟨x, by simp [hx], hi⟩
theorem Ents.ne {base : Int} {l : List Ent} (h : Ents base l) : ∃ e l', l = e :: l' := by
  cases l with
  | nil => exact h.elim
  | cons e l => exact ⟨e, l, rfl⟩
theorem Ents.top {base : Int} (hb : base = 0 ∨ base = 1) : ∀ {l : List Ent} {e : Ent}, Ents base (e :: l) → base ≤ e.lv ∧ e.lv ≤ 125 ∧ (l.length : Int) + 1 ≤ e.lv - base + 1 ∧ (e.ov = 0 ∨ e.ov = 1 ∨ e.ov = 2)
  | [], e, h => by
    simp only [Ents] at h
    subst h
    simp; omega
  | e' :: l, e, h => by
    obtain ⟨h1, h2, h3, h4⟩ := h
    obtain ⟨k1, k2, k3, k4⟩ := Ents.top hb h4
    simp only [List.length_cons]
    refine ⟨by omega, h2, by omega, h3⟩
theorem Ents.bottom {base : Int} : ∀ {l : List Ent}, Ents base l → ∃ l0, l = l0 ++ [⟨base, 0, false⟩]
  | [], h => h.elim
  | [e], h => ⟨[], by simp only [Ents] at h; rw [h]; rfl⟩
  | e :: e' :: l, h => by
    obtain ⟨_, _, _, h4⟩ := h
    obtain ⟨l0, h0⟩ := Ents.bottom h4
    exact ⟨e :: l0, by rw [h0]; rfl⟩
theorem Ents.tail {base : Int} {e e' : Ent} {l : List Ent} (h : Ents base (e :: e' :: l)) : Ents base (e' :: l) := h.2.2.2
theorem Ents.popTo {base : Int} : ∀ {l : List Ent}, Ents base l → 0 < isos l → Ents base (popTo l) ∧ isos (popTo l) = isos l - 1
  | [], h, _ => h.elim
  | [e], h, h0 => by
    simp only [Ents] at h
    subst h
    simp [isos] at h0
  | e :: e' :: l, h, h0 => by
    by_cases he : e.iso = true
    · have hp : Go.Proofs.Ytpdackbcnbhppaa.popTo (e :: e' :: l) = e' :: l := by simp [Go.Proofs.Ytpdackbcnbhppaa.popTo, he]
      rw [hp]
      exact ⟨h.tail, by simp only [isos, he]; simp; omega⟩
    · have hp : Go.Proofs.Ytpdackbcnbhppaa.popTo (e :: e' :: l) = Go.Proofs.Ytpdackbcnbhppaa.popTo (e' :: l) := by
        have he' : e.iso = false := by simpa using he
        rw [Go.Proofs.Ytpdackbcnbhppaa.popTo]; simp [he']
      have hi : isos (e :: e' :: l) = isos (e' :: l) := by
        have he' : e.iso = false := by simpa using he
        rw [isos]; simp [he']
      rw [hi] at h0
      rw [hp, hi]
      exact Ents.popTo h.tail h0
theorem nextLv_lt (odd : Bool) (lv : Int) : lv < nextLv odd lv ∧ nextLv odd lv ≤ lv + 2 := by unfold nextLv; split <;> omega

theorem WF.start {base : Int} (hb : base = 0 ∨ base = 1) : WF base ⟨[⟨base, 0, false⟩], 0, 0, 0⟩ :=
  ⟨hb, rfl, by simp, by simp, by simp [isos]⟩

theorem Ents.push {base : Int} {e x : Ent} {l : List Ent} (h : Ents base (e :: l)) (h1 : e.lv < x.lv) (h2 : x.lv ≤ 125) (h3 : x.ov = 0 ∨ x.ov = 1 ∨ x.ov = 2) : Ents base (x :: e :: l) := ⟨h1, h2, h3, h⟩

set_option maxHeartbeats 1000000 in
/-- A step leads from a stack to a stack; the counts grow by one at most. -/
theorem WF.step {base : Int} {s : SS} (h : WF base s) (c auto : Int) : WF base (stepS base s c auto).s ∧ (stepS base s c auto).s.i ≤ s.i + 1 ∧ (stepS base s c auto).s.m ≤ s.m + 1 := by
  obtain ⟨e, l, hl⟩ := h.ents.ne
  have he := h.ents
  have hv := h.v0
  have hi := h.i0
  have hm := h.m0
  rw [hl] at he hv
  have hemb : ∀ odd ov, (ov = 0 ∨ ov = 1 ∨ ov = 2) → WF base (embS c s e odd ov).s ∧ (embS c s e odd ov).s.i ≤ s.i + 1 ∧ (embS c s e odd ov).s.m ≤ s.m + 1 := by
    intro odd ov hov
    unfold embS
    have hn := nextLv_lt odd e.lv
    split
    · rename_i h1
      refine ⟨⟨h.hb, ?_, hi, hm, ?_⟩, by simp; omega, by simp; omega⟩
      · rw [hl]; exact he.push hn.1 h1.1 hov
      · simp only [hl, isos] at hv ⊢; simp; omega
    · refine ⟨⟨h.hb, h.ents, hi, ?_, h.v0⟩, by simp; omega, ?_⟩ <;> simp only <;> split <;> omega
  have hiso : ∀ odd, WF base (isoS c s e odd).s ∧ (isoS c s e odd).s.i ≤ s.i + 1 ∧ (isoS c s e odd).s.m ≤ s.m + 1 := by
    intro odd
    unfold isoS
    have hn := nextLv_lt odd e.lv
    split
    · rename_i h1
      refine ⟨⟨h.hb, ?_, hi, hm, ?_⟩, by simp; omega, by simp; omega⟩
      · rw [hl]; exact he.push hn.1 h1.1 (.inl rfl)
      · simp only [hl, isos] at hv ⊢; simp; omega
    · exact ⟨⟨h.hb, h.ents, by simp; omega, hm, h.v0⟩, by simp, by simp; omega⟩
  have hpdi : WF base (pdiS s e).s ∧ (pdiS s e).s.i ≤ s.i + 1 ∧ (pdiS s e).s.m ≤ s.m + 1 := by
    unfold pdiS
    split
    · exact ⟨⟨h.hb, h.ents, by simp; omega, hm, h.v0⟩, by simp; omega, by simp; omega⟩
    · split
      · rename_i h2
        rw [h.v0] at h2
        obtain ⟨k1, k2⟩ := h.ents.popTo h2
        obtain ⟨e', l', hp⟩ := k1.ne
        rw [hp] at k1 k2
        rw [hp]
        refine ⟨⟨h.hb, k1, hi, by simp, ?_⟩, by simp; omega, by simp; omega⟩
        simp only; rw [k2, h.v0]
      · exact ⟨h, by simp; omega, by simp; omega⟩
  have hpdf : WF base (pdfS s e).s ∧ (pdfS s e).s.i ≤ s.i + 1 ∧ (pdfS s e).s.m ≤ s.m + 1 := by
    unfold pdfS
    split
    · exact ⟨h, by simp; omega, by simp; omega⟩
    · split
      · exact ⟨⟨h.hb, h.ents, hi, by simp; omega, h.v0⟩, by simp; omega, by simp; omega⟩
      · split
        · exact ⟨h, by simp; omega, by simp; omega⟩
        · rename_i h3
          split
          · rename_i x e' l' h4
            rw [hl] at h4
            injection h4 with h5 h6
            subst h5 h6
            refine ⟨⟨h.hb, he.tail, hi, hm, ?_⟩, by simp; omega, by simp; omega⟩
            simp only [isos] at hv ⊢
            rw [if_neg h3] at hv
            omega
          · exact ⟨h, by simp; omega, by simp; omega⟩
  unfold stepS
  rw [hl]
  simp only
  repeat' split
  all_goals first
    | exact hemb _ _ (by omega)
    | exact hiso _
    | exact hpdi
    | exact hpdf
    | exact ⟨h, by simp; omega, by simp; omega⟩
    | exact ⟨WF.start h.hb, by simp; omega, by simp; omega⟩
end Go.Proofs.Ytpdackbcnbhppaa
