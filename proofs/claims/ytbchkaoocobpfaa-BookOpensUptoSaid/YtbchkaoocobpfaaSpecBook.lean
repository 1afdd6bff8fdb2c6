/- Books: what is kept, by key and by what was done: the plain law. No program in sight. -/
import Derived.Test.YtbchkaoocobpfaaMapA
import Derived.Test.YtbchkaoocobpfaaSpecLog
import Derived.Test.YtbchkaoocobpfaaSpecVary
namespace Go.Larder
open Go.RowKit
set_option linter.unusedVariables false
set_option linter.unusedSimpArgs false
abbrev Ent := Bool × List UInt8 × List UInt8
abbrev Kv := List (List UInt8 × List UInt8)
def stG (k : List UInt8) (a : Option (List UInt8)) (e : Ent) : Option (List UInt8) := if e.2.1 = k then (if e.1 then some e.2.2 else none) else a
def getL (L : List Ent) (k : List UInt8) : Option (List UInt8) := L.foldl (stG k) none
theorem getL_snoc (L : List Ent) (e : Ent) (k : List UInt8) : getL (L ++ [e]) k = stG k (getL L k) e := by simp [getL, List.foldl_append]
structure OkEnt (e : Ent) : Prop where
  k1 : 1 ≤ e.2.1.length
  k2 : e.2.1.length ≤ 50
  v : e.2.2.length ≤ 900
  d : e.1 = false → e.2.2 = []
def recE (e : Ent) : List UInt8 := [if e.1 then 1 else 2, UInt8.ofNat e.2.1.length] ++ e.2.1 ++ e.2.2
theorem recE_len {e : Ent} (h : OkEnt e) : (recE e).length ≤ 952 := by
  have := h.k2; have := h.v
  simp [recE]; omega
theorem recE_pos (e : Ent) : 2 ≤ (recE e).length := by simp [recE]
def imgGo : Nat → List Ent → List UInt8
  | _, [] => []
  | n, e :: r => frameL n (recE e) ++ imgGo (n + 1) r
theorem imgGo_snoc : ∀ (L : List Ent) (n : Nat) (e : Ent), imgGo n (L ++ [e]) = imgGo n L ++ frameL (n + L.length) (recE e)
  | [], n, e => by simp [imgGo]
  | x :: L, n, e => by
    simp only [List.cons_append, imgGo, imgGo_snoc L (n + 1) e, List.append_assoc, List.length_cons]
    rw [show n + 1 + L.length = n + (L.length + 1) from by omega]
theorem imgGo_len : ∀ (L : List Ent) (n : Nat), (∀ e ∈ L, OkEnt e) → (imgGo n L).length ≤ 960 * L.length
  | [], _, _ => by simp [imgGo]
  | e :: L, n, h => by
    have h1 := imgGo_len L (n + 1) fun x hx => h x (List.mem_cons_of_mem _ hx)
    have h2 := recE_len (h e (by simp))
    simp only [imgGo, List.length_append, frameL_len, List.length_cons]
    omega
def addK (L : List Ent) (out : List (List UInt8)) (e : Ent) : List (List UInt8) := if (getL L e.2.1).isSome && !out.contains e.2.1 then out ++ [e.2.1] else out
def keysU (L : List Ent) : List (List UInt8) := L.foldl (addK L) []
theorem addK_mem {L : List Ent} {out : List (List UInt8)} {e : Ent} {x : List UInt8} : x ∈ addK L out e ↔ x ∈ out ∨ (x = e.2.1 ∧ (getL L x).isSome = true) := by
  unfold addK
  by_cases h1 : (getL L e.2.1).isSome = true
  · by_cases h2 : out.contains e.2.1 = true
    · have h2' : e.2.1 ∈ out := by simpa using h2
      simp only [h1, h2, Bool.not_true, Bool.and_false, Bool.false_eq_true, if_false]
      constructor
      · exact .inl
      · rintro (h | ⟨rfl, _⟩)
        · exact h
        · exact h2'
    · simp only [h1, Bool.not_eq_true] at h2 ⊢
      simp only [h2, Bool.not_false, Bool.and_true, if_true, List.mem_append, List.mem_singleton]
      constructor
      · rintro (h | rfl)
        · exact .inl h
        · exact .inr ⟨rfl, h1⟩
      · rintro (h | ⟨rfl, _⟩)
        · exact .inl h
        · exact .inr rfl
  · simp only [Bool.not_eq_true] at h1
    simp only [h1, Bool.false_and, Bool.false_eq_true, if_false]
    constructor
    · exact .inl
    · rintro (h | ⟨rfl, h⟩)
      · exact h
      · rw [h1] at h; cases h
theorem addK_nodup {L : List Ent} {out : List (List UInt8)} {e : Ent} (h : out.Nodup) : (addK L out e).Nodup := by
  unfold addK
  split
  · rename_i h1
    simp only [Bool.and_eq_true, Bool.not_eq_true'] at h1
    have h2 : e.2.1 ∉ out := by simpa using h1.2
    refine List.nodup_append.2 ⟨h, by simp, ?_⟩
    intro a ha b hb
    simp only [List.mem_singleton] at hb
    subst hb
    rintro rfl
    exact h2 ha
  · exact h
theorem keysGo_mem (L : List Ent) : ∀ (r : List Ent) (out : List (List UInt8)) (x : List UInt8), x ∈ r.foldl (addK L) out ↔ x ∈ out ∨ ((∃ e ∈ r, e.2.1 = x) ∧ (getL L x).isSome = true)
  | [], out, x => by simp
  | e :: r, out, x => by
    rw [List.foldl_cons, keysGo_mem L r (addK L out e) x, addK_mem]
    constructor
    · rintro ((h | ⟨rfl, h⟩) | ⟨⟨e', he', rfl⟩, h⟩)
      · exact .inl h
      · exact .inr ⟨⟨e, by simp, rfl⟩, h⟩
      · exact .inr ⟨⟨e', by simp [he'], rfl⟩, h⟩
    · rintro (h | ⟨⟨e', he', rfl⟩, h⟩)
      · exact .inl (.inl h)
      · rcases List.mem_cons.1 he' with rfl | he'
        · exact .inl (.inr ⟨rfl, h⟩)
        · exact .inr ⟨⟨e', he', rfl⟩, h⟩
theorem keysGo_nodup (L : List Ent) : ∀ (r : List Ent) (out : List (List UInt8)), out.Nodup → (r.foldl (addK L) out).Nodup
  | [], _, h => h
  | e :: r, out, h => keysGo_nodup L r _ (addK_nodup h)
theorem getF_none (k : List UInt8) : ∀ (L : List Ent) (a : Option (List UInt8)), (∀ e ∈ L, e.2.1 ≠ k) → L.foldl (stG k) a = a
  | [], _, _ => rfl
  | e :: L, a, h => by
    rw [List.foldl_cons, stG, if_neg (h e (by simp))]
    exact getF_none k L a fun x hx => h x (List.mem_cons_of_mem _ hx)
theorem keysU_mem (L : List Ent) (x : List UInt8) : x ∈ keysU L ↔ (getL L x).isSome = true := by
  unfold keysU
  rw [keysGo_mem]
  constructor
  · rintro (h | h)
    · cases h
    · exact h.2
  · intro h
    refine .inr ⟨?_, h⟩
    apply Classical.byContradiction
    intro hn
    have h0 : getL L x = none := getF_none x L none fun e he hx => hn ⟨e, he, hx⟩
    rw [h0] at h
    cases h
theorem keysU_nodup (L : List Ent) : (keysU L).Nodup := keysGo_nodup L L [] List.nodup_nil
/-- what the program keeps and what the reference keeps -/
structure BookR (m : Kv) (L : List Ent) : Prop where
  nd : (keysM m).Nodup
  get : ∀ k, getM m k = getL L k
  ok : ∀ e ∈ L, OkEnt e
  few : m.length ≤ 100
theorem BookR.new : BookR [] [] := ⟨by simp [keysM], fun _ => rfl, (fun _ h => by cases h), by simp⟩
theorem perm_of_mem {l l' : List (List UInt8)} (h1 : l.Nodup) (h2 : l'.Nodup) (h : ∀ x, x ∈ l ↔ x ∈ l') : l.Perm l' := (List.perm_ext_iff_of_nodup h1 h2).2 h
theorem BookR.perm {m : Kv} {L : List Ent} (h : BookR m L) : (keysM m).Perm (keysU L) := perm_of_mem h.nd (keysU_nodup L) fun x => by
  rw [keysU_mem, ← h.get x]
  have hn := getM_none (m := m) (k := x)
  cases hg : getM m x with
  | none => simp [hn.1 hg]
  | some v =>
    simp only [Option.isSome_some, iff_true]
    apply Classical.byContradiction
    intro hc
    rw [hn.2 hc] at hg
    cases hg
theorem BookR.keys {m : Kv} {L : List Ent} (h : BookR m L) : sortL (keysM m) = sortL (keysU L) :=
  sorted_eq (((sortL_perm _).trans h.perm).trans (sortL_perm _).symm) (sortL_pair _) (sortL_pair _)
theorem BookR.count {m : Kv} {L : List Ent} (h : BookR m L) : m.length = (keysU L).length := by
  have := h.perm.length_eq
  simpa [keysM] using this
def setE (m : Kv) (k v : List UInt8) : Int := if k = [] ∨ 50 < k.length then 1 else if 900 < v.length then 2 else if getM m k = none ∧ m.length = 100 then 6 else 0
theorem BookR.set {m : Kv} {L : List Ent} (h : BookR m L) {k v : List UInt8} (he : setE m k v = 0) : BookR (putM m k v) (L ++ [(true, k, v)]) := by
  have h1 : ¬ (k = [] ∨ 50 < k.length) := by intro h0; simp [setE, h0] at he
  have h2 : ¬ 900 < v.length := by intro h0; simp [setE, h1, h0] at he
  have h3 : ¬ (getM m k = none ∧ m.length = 100) := by intro h0; simp [setE, h1, h2, h0] at he
  have hk : k ≠ [] := fun h0 => h1 (.inl h0)
  refine ⟨nodup_put h.nd k v, fun k' => ?_, fun e he => ?_, ?_⟩
  · rw [getM_put, getL_snoc, stG]
    by_cases hk' : k' = k
    · subst hk'; simp
    · rw [if_neg hk', if_neg (fun h0 => hk' h0.symm), h.get]
  · rcases List.mem_append.1 he with he | he
    · exact h.ok e he
    · rw [List.mem_singleton] at he
      subst he
      exact ⟨by have := List.length_pos_iff.2 hk; show 1 ≤ k.length; omega, by show k.length ≤ 50; omega, by show v.length ≤ 900; omega, fun h0 => by cases h0⟩
  · have hf := h.few
    rw [len_put]
    cases hg : getM m k with
    | some x => simpa using hf
    | none =>
      have : m.length ≠ 100 := fun h0 => h3 ⟨hg, h0⟩
      simp only [Option.isSome_none, Bool.false_eq_true, if_false]
      omega
theorem BookR.del {m : Kv} {L : List Ent} (h : BookR m L) {k v : List UInt8} (he : getM m k = some v) : BookR (delM m k) (L ++ [(false, k, [])]) := by
  refine ⟨nodup_del h.nd k, fun k' => ?_, fun e he' => ?_, ?_⟩
  · rw [getM_del h.nd, getL_snoc, stG]
    by_cases hk' : k' = k
    · subst hk'; simp
    · rw [if_neg hk', if_neg (fun h0 => hk' h0.symm), h.get]
  · rcases List.mem_append.1 he' with he' | he'
    · exact h.ok e he'
    · rw [List.mem_singleton] at he'
      subst he'
      have hx : ∃ e ∈ L, e.2.1 = k := by
        apply Classical.byContradiction
        intro hn
        have h0 : getL L k = none := getF_none k L none fun e he hx => hn ⟨e, he, hx⟩
        rw [← h.get, he] at h0
        cases h0
      obtain ⟨e0, he0, rfl⟩ := hx
      have := h.ok e0 he0
      exact ⟨this.k1, this.k2, by simp, fun _ => rfl⟩
  · have hf := h.few
    rw [len_del]
    split <;> omega
theorem getL_len {L : List Ent} (h : ∀ e ∈ L, OkEnt e) {k v : List UInt8} (hg : getL L k = some v) : v.length ≤ 900 ∧ 1 ≤ k.length ∧ k.length ≤ 50 := by
  have gen : ∀ (L : List Ent) (a : Option (List UInt8)), (∀ e ∈ L, OkEnt e) → L.foldl (stG k) a = some v → a = some v ∨ (v.length ≤ 900 ∧ 1 ≤ k.length ∧ k.length ≤ 50) := by
    intro L
    induction L with
    | nil => intro a _ h; exact .inl h
    | cons e L ih =>
      intro a ho h0
      rw [List.foldl_cons] at h0
      rcases ih _ (fun x hx => ho x (List.mem_cons_of_mem _ hx)) h0 with h1 | h1
      · unfold stG at h1
        have he := ho e (by simp)
        split at h1
        · rename_i hk
          subst hk
          split at h1
          · injection h1 with h1; subst h1; exact .inr ⟨he.v, he.k1, he.k2⟩
          · cases h1
        · exact .inl h1
      · exact .inr h1
  rcases gen L none h hg with h | h
  · cases h
  · exact h
theorem BookR.keyLen {m : Kv} {L : List Ent} (h : BookR m L) {k v : List UInt8} (hg : getM m k = some v) : v.length ≤ 900 ∧ 1 ≤ k.length ∧ k.length ≤ 50 := getL_len h.ok (by rw [← h.get]; exact hg)
/-- what is left when no more records are than must be -/
def compL (m : Kv) : List Ent := (sortL (keysM m)).map fun k => (true, k, (getM m k).getD [])
theorem getF_map (f : List UInt8 → List UInt8) (k : List UInt8) : ∀ (ks : List (List UInt8)) (a : Option (List UInt8)), (ks.map fun x => ((true, x, f x) : Ent)).foldl (stG k) a = if k ∈ ks then some (f k) else a
  | [], a => by simp
  | x :: ks, a => by
    rw [List.map_cons, List.foldl_cons, getF_map f k ks]
    by_cases h1 : k ∈ ks
    · simp [h1]
    · by_cases h2 : x = k
      · subst h2; simp [h1, stG]
      · have h2' : k ≠ x := fun h0 => h2 h0.symm
        simp [h1, stG, h2, h2']
theorem keysM_mem {m : Kv} {k : List UInt8} : k ∈ keysM m ↔ (getM m k).isSome = true := by
  have := getM_none (m := m) (k := k)
  cases hg : getM m k with
  | none => simp [this.1 hg]
  | some v =>
    simp only [Option.isSome_some, iff_true]
    apply Classical.byContradiction
    intro hc
    rw [this.2 hc] at hg
    cases hg
theorem BookR.comp {m : Kv} {L : List Ent} (h : BookR m L) : BookR m (compL m) := by
  refine ⟨h.nd, fun k => ?_, fun e he => ?_, h.few⟩
  · unfold getL compL
    rw [getF_map (fun k => (getM m k).getD [])]
    have hm : k ∈ sortL (keysM m) ↔ (getM m k).isSome = true := by rw [(sortL_perm _).mem_iff, keysM_mem]
    cases hg : getM m k with
    | none => rw [if_neg (by rw [hm, hg]; simp)]
    | some v => rw [if_pos (by rw [hm, hg]; rfl)]; rfl
  · unfold compL at he
    obtain ⟨k, hk, rfl⟩ := List.mem_map.1 he
    rw [(sortL_perm _).mem_iff, keysM_mem] at hk
    cases hg : getM m k with
    | none => rw [hg] at hk; cases hk
    | some v =>
      have := h.keyLen hg
      exact ⟨this.2.1, this.2.2, by show ((some v).getD []).length ≤ 900; exact this.1, fun h0 => by cases h0⟩
theorem compL_len (m : Kv) : (compL m).length = m.length := by simp [compL, sortL_len, keysM]
end Go.Larder
