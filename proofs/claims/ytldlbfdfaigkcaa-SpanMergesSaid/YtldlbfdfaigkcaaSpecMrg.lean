/- Slices merged: two ways, one list: the maximal runs of the numbers that are covered. No program in sight. -/
import Derived.Test.YtldlbfdfaigkcaaBase
namespace Go.Larder
set_option linter.unusedSimpArgs false
set_option linter.unusedVariables false
abbrev Iv := Int × Int
def covd (l : List Iv) (x : Int) : Prop := ∃ s ∈ l, s.1 ≤ x ∧ x < s.2
/-- Rising, not empty, none touching the next. -/
def NF : List Iv → Prop
  | [] => True
  | s :: l => s.1 < s.2 ∧ (∀ t ∈ l, s.2 < t.1) ∧ NF l
theorem NF.all_ne : ∀ {l : List Iv}, NF l → ∀ s ∈ l, s.1 < s.2
  | s :: l, h, t, ht => by
    rcases List.mem_cons.1 ht with rfl | ht
    · exact h.1
    · exact NF.all_ne h.2.2 t ht
theorem covd_cons {s : Iv} {l : List Iv} {x : Int} : covd (s :: l) x ↔ (s.1 ≤ x ∧ x < s.2) ∨ covd l x := by
  unfold covd; simp
theorem covd_app {l m : List Iv} {x : Int} : covd (l ++ m) x ↔ covd l x ∨ covd m x := by
  unfold covd
  constructor
  · rintro ⟨s, hs, h⟩
    rcases List.mem_append.1 hs with hs | hs
    · exact .inl ⟨s, hs, h⟩
    · exact .inr ⟨s, hs, h⟩
  · rintro (⟨s, hs, h⟩ | ⟨s, hs, h⟩)
    · exact ⟨s, List.mem_append_left _ hs, h⟩
    · exact ⟨s, List.mem_append_right _ hs, h⟩
theorem covd_nil {x : Int} : ¬ covd [] x := by unfold covd; simp
theorem nf_tail {s : Iv} {l : List Iv} (h : NF (s :: l)) {x : Int} (hx : covd l x) : s.2 < x := by
  obtain ⟨t, ht, h1, h2⟩ := hx
  have := h.2.1 t ht
  omega
theorem nf_unique : ∀ {l l' : List Iv}, NF l → NF l' → (∀ x, covd l x ↔ covd l' x) → l = l'
  | [], [], _, _, _ => rfl
  | [], s :: l', _, h', he => by
    have := (he s.1).2 (covd_cons.2 (.inl ⟨by omega, h'.1⟩))
    exact absurd this covd_nil
  | s :: l, [], h, _, he => by
    have := (he s.1).1 (covd_cons.2 (.inl ⟨by omega, h.1⟩))
    exact absurd this covd_nil
  | s :: l, s' :: l', h, h', he => by
    have e1 : s.1 = s'.1 := by
      have a := (he s.1).1 (covd_cons.2 (.inl ⟨by omega, h.1⟩))
      have b := (he s'.1).2 (covd_cons.2 (.inl ⟨by omega, h'.1⟩))
      have ha : s'.1 ≤ s.1 := by
        rcases covd_cons.1 a with a | a
        · exact a.1
        · have := nf_tail h' a; have := h'.1; omega
      have hb : s.1 ≤ s'.1 := by
        rcases covd_cons.1 b with b | b
        · exact b.1
        · have := nf_tail h b; have := h.1; omega
      omega
    have key : ∀ {s s' : Iv} {l l' : List Iv}, NF (s :: l) → NF (s' :: l') → s.1 = s'.1 → (∀ x, covd (s :: l) x ↔ covd (s' :: l') x) → s'.2 ≤ s.2 := by
      intro s s' l l' h h' e he
      rcases Int.lt_or_le s.2 s'.2 with hlt | hle
      · have := (he s.2).2 (covd_cons.2 (.inl ⟨by have := h.1; omega, hlt⟩))
        rcases covd_cons.1 this with c | c
        · omega
        · have := nf_tail h c; omega
      · exact hle
    have e2 : s.2 = s'.2 := by
      have a := key h h' e1 he
      have b := key h' h e1.symm (fun x => (he x).symm)
      omega
    have e3 : s = s' := Prod.ext e1 e2
    subst e3
    rw [nf_unique h.2.2 h'.2.2 (fun x => ?_)]
    constructor
    · intro hx
      have := nf_tail h hx
      rcases covd_cons.1 ((he x).1 (covd_cons.2 (.inr hx))) with c | c
      · omega
      · exact c
    · intro hx
      have := nf_tail h' hx
      rcases covd_cons.1 ((he x).2 (covd_cons.2 (.inr hx))) with c | c
      · omega
      · exact c
theorem nf_app : ∀ {l m : List Iv}, NF (l ++ m) ↔ NF l ∧ NF m ∧ ∀ a ∈ l, ∀ b ∈ m, a.2 < b.1
  | [], m => by simp [NF]
  | s :: l, m => by
    rw [List.cons_append]
    show (_ ∧ _ ∧ NF (l ++ m)) ↔ (_ ∧ _ ∧ NF l) ∧ NF m ∧ _
    rw [nf_app]
    constructor
    · rintro ⟨h1, h2, h3, h4, h5⟩
      refine ⟨⟨h1, fun t ht => h2 t (List.mem_append_left _ ht), h3⟩, h4, fun a ha b hb => ?_⟩
      rcases List.mem_cons.1 ha with rfl | ha
      · exact h2 b (List.mem_append_right _ hb)
      · exact h5 a ha b hb
    · rintro ⟨⟨h1, h2, h3⟩, h4, h5⟩
      refine ⟨h1, fun t ht => ?_, h3, h4, fun a ha b hb => h5 a (List.mem_cons_of_mem _ ha) b hb⟩
      rcases List.mem_append.1 ht with ht | ht
      · exact h2 t ht
      · exact h5 s (by simp) t ht
/-- the program's step: the next slice, rising -/
def pStep (out : List Iv) (s : Iv) : List Iv := match out.getLast? with
  | some t => if s.1 ≤ t.2 then out.dropLast ++ [(t.1, max t.2 s.2)] else out ++ [s]
  | none => [s]
/-- the reference's inner loop -/
def rIn : List Iv → List Iv → Iv → List Iv → List Iv × Iv × List Iv
  | [], A, s, B => (A, s, B)
  | t :: l, A, s, B => if t.2 < s.1 then rIn l (A ++ [t]) s B else if s.2 < t.1 then rIn l A s (B ++ [t]) else rIn l A (min s.1 t.1, max s.2 t.2) B
def rStep (out : List Iv) (s : Iv) : List Iv := if s.2 ≤ s.1 then out else
  (rIn out [] s []).1 ++ [(rIn out [] s []).2.1] ++ (rIn out [] s []).2.2
theorem rIn_behind : ∀ (l A : List Iv) (s : Iv) (B : List Iv), s.1 < s.2 → (∀ t ∈ l, t.1 < t.2 ∧ s.2 < t.1) → rIn l A s B = (A, s, B ++ l)
  | [], A, s, B, _, _ => by simp [rIn]
  | t :: l, A, s, B, hs, h => by
    obtain ⟨h1, h2⟩ := h t (by simp)
    rw [rIn, if_neg (by omega), if_pos h2, rIn_behind l A s (B ++ [t]) hs (fun u hu => h u (by simp [hu]))]
    simp
theorem rIn_law : ∀ (l A : List Iv) (s : Iv), s.1 < s.2 → NF (A ++ l) → (∀ a ∈ A, a.2 < s.1) →
    NF ((rIn l A s []).1 ++ [(rIn l A s []).2.1] ++ (rIn l A s []).2.2) ∧ ∀ x, covd ((rIn l A s []).1 ++ [(rIn l A s []).2.1] ++ (rIn l A s []).2.2) x ↔ covd (A ++ l) x ∨ (s.1 ≤ x ∧ x < s.2)
  | [], A, s, hs, hA, ha => by
    simp only [rIn, List.append_nil] at *
    refine ⟨nf_app.2 ⟨hA, ⟨hs, by simp, trivial⟩, fun a h b hb => ?_⟩, fun x => ?_⟩
    · rw [List.mem_singleton] at hb; subst hb; exact ha a h
    · rw [covd_app, covd_cons]
      constructor
      · rintro (h | h | h)
        · exact .inl h
        · exact .inr h
        · exact absurd h covd_nil
      · rintro (h | h)
        · exact .inl h
        · exact .inr (.inl h)
  | t :: l, A, s, hs, hA, ha => by
    obtain ⟨n1, n2, n3⟩ := nf_app.1 hA
    have ht := n2.1
    by_cases h1 : t.2 < s.1
    · rw [rIn, if_pos h1]
      have := rIn_law l (A ++ [t]) s hs (by rw [List.append_assoc]; exact hA) (fun a h => by
        rcases List.mem_append.1 h with h | h
        · exact ha a h
        · rw [List.mem_singleton] at h; subst h; exact h1)
      rw [List.append_assoc A [t] l] at this
      exact this
    · by_cases h2 : s.2 < t.1
      · have e := rIn_behind (t :: l) A s [] hs (fun u hu => by
          rcases List.mem_cons.1 hu with rfl | hu
          · exact ⟨ht, h2⟩
          · have := n2.2.1 u hu
            exact ⟨NF.all_ne n2.2.2 u hu, by omega⟩)
        rw [e]
        simp only [List.nil_append]
        refine ⟨?_, fun x => ?_⟩
        · rw [List.append_assoc]
          refine nf_app.2 ⟨n1, ⟨hs, fun u hu => ?_, n2⟩, fun a h b hb => ?_⟩
          · rcases List.mem_cons.1 hu with rfl | hu
            · exact h2
            · have := n2.2.1 u hu; omega
          · rcases List.mem_cons.1 hb with rfl | hb
            · exact ha a h
            · exact n3 a h b hb
        · rw [covd_app, covd_app, covd_app, covd_cons (s := s)]
          constructor
          · rintro ((h | h | h) | h)
            · exact .inl (.inl h)
            · exact .inr h
            · exact absurd h covd_nil
            · exact .inl (.inr h)
          · rintro ((h | h) | h)
            · exact .inl (.inl h)
            · exact .inr h
            · exact .inl (.inr (.inl h))
      · rw [rIn, if_neg h1, if_neg h2]
        have := rIn_law l A (min s.1 t.1, max s.2 t.2) (by show min s.1 t.1 < max s.2 t.2; omega) (nf_app.2 ⟨n1, n2.2.2, fun a h b hb => n3 a h b (by simp [hb])⟩) (fun a h => by
          have := ha a h
          have := n3 a h t (by simp)
          show a.2 < min s.1 t.1
          omega)
        refine ⟨this.1, fun x => (this.2 x).trans ?_⟩
        rw [covd_app, covd_app, covd_cons (s := t)]
        show (_ ∨ min s.1 t.1 ≤ x ∧ x < max s.2 t.2) ↔ _
        constructor
        · rintro ((h | h) | h)
          · exact .inl (.inl h)
          · exact .inl (.inr (.inr h))
          · by_cases hx : s.1 ≤ x ∧ x < s.2
            · exact .inr hx
            · exact .inl (.inr (.inl (by omega)))
        · rintro ((h | h | h) | h)
          · exact .inl (.inl h)
          · exact .inr (by omega)
          · exact .inl (.inr h)
          · exact .inr (by omega)
theorem rStep_law {out : List Iv} (h : NF out) (s : Iv) : NF (rStep out s) ∧ ∀ x, covd (rStep out s) x ↔ covd out x ∨ (s.1 ≤ x ∧ x < s.2) := by
  unfold rStep
  split
  · exact ⟨h, fun x => ⟨.inl, fun hx => hx.resolve_right (by omega)⟩⟩
  · exact rIn_law out [] s (by omega) h (by simp)
theorem rFold_law : ∀ (l out : List Iv), NF out → NF (l.foldl rStep out) ∧ ∀ x, covd (l.foldl rStep out) x ↔ covd out x ∨ covd l x
  | [], out, h => ⟨h, fun x => ⟨.inl, fun hx => hx.resolve_right covd_nil⟩⟩
  | s :: l, out, h => by
    obtain ⟨h1, h2⟩ := rStep_law h s
    obtain ⟨h3, h4⟩ := rFold_law l _ h1
    refine ⟨h3, fun x => (h4 x).trans ?_⟩
    rw [h2, covd_cons, or_assoc]
theorem last_split {α : Type} {l : List α} {t : α} (h : l.getLast? = some t) : l = l.dropLast ++ [t] := by
  rcases nil_or_snoc l with rfl | ⟨m, b, rfl⟩
  · simp at h
  · simp at h ⊢; exact h
theorem pStep_law {out : List Iv} (h : NF out) (s : Iv) (hs : s.1 < s.2) (hle : ∀ t ∈ out, t.1 ≤ s.1) :
    NF (pStep out s) ∧ (∀ x, covd (pStep out s) x ↔ covd out x ∨ (s.1 ≤ x ∧ x < s.2)) ∧ ∀ t ∈ pStep out s, t.1 ≤ s.1 := by
  unfold pStep
  cases hl : out.getLast? with
  | none =>
    have : out = [] := by simpa using hl
    subst this
    refine ⟨⟨hs, by simp, trivial⟩, fun x => ?_, fun t ht => ?_⟩
    · rw [covd_cons]
      constructor
      · rintro (h | h)
        · exact .inr h
        · exact absurd h covd_nil
      · rintro (h | h)
        · exact absurd h covd_nil
        · exact .inl h
    · rw [List.mem_singleton] at ht; subst ht; omega
  | some t =>
    have e := last_split hl
    generalize out.dropLast = d at *
    subst e
    obtain ⟨n1, n2, n3⟩ := nf_app.1 h
    have htl := hle t (by simp)
    have htn := n2.1
    simp only
    split
    · next hc =>
      refine ⟨nf_app.2 ⟨n1, ⟨by show t.1 < max t.2 s.2; omega, by simp, trivial⟩, fun a ha b hb => ?_⟩, fun x => ?_, fun u hu => ?_⟩
      · rw [List.mem_singleton] at hb; subst hb
        exact n3 a ha t (by simp)
      · rw [covd_app, covd_app, covd_cons, covd_cons]
        show (_ ∨ (t.1 ≤ x ∧ x < max t.2 s.2) ∨ _) ↔ _
        constructor
        · rintro (h | h | h)
          · exact .inl (.inl h)
          · by_cases hx : s.1 ≤ x ∧ x < s.2
            · exact .inr hx
            · exact .inl (.inr (.inl (by omega)))
          · exact absurd h covd_nil
        · rintro ((h | h | h) | h)
          · exact .inl h
          · exact .inr (.inl (by omega))
          · exact absurd h covd_nil
          · exact .inr (.inl (by omega))
      · rcases List.mem_append.1 hu with hu | hu
        · exact hle u (by simp [hu])
        · rw [List.mem_singleton] at hu; subst hu; exact htl
    · next hc =>
      refine ⟨nf_app.2 ⟨h, ⟨hs, by simp, trivial⟩, fun a ha b hb => ?_⟩, fun x => ?_, fun u hu => ?_⟩
      · rw [List.mem_singleton] at hb; subst hb
        rcases List.mem_append.1 ha with ha | ha
        · have := n3 a ha t (by simp); omega
        · rw [List.mem_singleton] at ha; subst ha; omega
      · rw [covd_app, covd_cons]
        constructor
        · rintro (h | h | h)
          · exact .inl h
          · exact .inr h
          · exact absurd h covd_nil
        · rintro (h | h)
          · exact .inl h
          · exact .inr (.inl h)
      · rcases List.mem_append.1 hu with hu | hu
        · exact hle u hu
        · rw [List.mem_singleton] at hu; subst hu; omega
theorem pFold_law : ∀ (l out : List Iv), NF out → (∀ s ∈ l, s.1 < s.2) → (l.Pairwise fun a b => a.1 ≤ b.1) → (∀ t ∈ out, ∀ s ∈ l, t.1 ≤ s.1) → NF (l.foldl pStep out) ∧ ∀ x, covd (l.foldl pStep out) x ↔ covd out x ∨ covd l x
  | [], out, h, _, _, _ => ⟨h, fun x => ⟨.inl, fun hx => hx.resolve_right covd_nil⟩⟩
  | s :: l, out, h, hne, hsrt, hle => by
    obtain ⟨h1, h2, h3⟩ := pStep_law h s (hne s (by simp)) (fun t ht => hle t ht s (by simp))
    obtain ⟨q1, q2⟩ := List.pairwise_cons.1 hsrt
    obtain ⟨h4, h5⟩ := pFold_law l _ h1 (fun u hu => hne u (by simp [hu])) q2 (fun t ht u hu => by have := h3 t ht; have := q1 u hu; omega)
    refine ⟨h4, fun x => (h5 x).trans ?_⟩
    rw [h2, covd_cons, or_assoc]
def isIv (s : Iv) : Bool := decide (s.1 < s.2)
/-- The law: whatever order the sort gives. -/
theorem merge_law {l m : List Iv} (hp : m.Perm (l.filter isIv)) (hs : m.Pairwise fun a b => a.1 ≤ b.1) : m.foldl pStep [] = l.foldl rStep [] := by
  have hm : ∀ s ∈ m, s.1 < s.2 := fun s h => by
    have := (hp.mem_iff).1 h
    have := (List.mem_filter.1 this).2
    exact of_decide_eq_true this
  obtain ⟨a1, a2⟩ := pFold_law m [] trivial hm hs (by simp)
  obtain ⟨b1, b2⟩ := rFold_law l [] trivial
  refine nf_unique a1 b1 fun x => ?_
  rw [a2, b2]
  constructor
  · rintro (h | ⟨s, h, hx⟩)
    · exact .inl h
    · exact .inr ⟨s, (List.mem_filter.1 ((hp.mem_iff).1 h)).1, hx⟩
  · rintro (h | ⟨s, h, hx⟩)
    · exact .inl h
    · exact .inr ⟨s, (hp.mem_iff).2 (List.mem_filter.2 ⟨h, decide_eq_true (by omega)⟩), hx⟩
end Go.Larder
