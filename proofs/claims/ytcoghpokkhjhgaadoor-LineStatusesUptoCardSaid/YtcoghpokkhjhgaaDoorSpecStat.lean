/- Status lines. No program in sight. -/
import Derived.Test.YtcoghpokkhjhgaaDoorSpecLine
import Derived.Test.YtcoghpokkhjhgaaDoorSpecDec
namespace Go.Larder
set_option linter.unusedVariables false
set_option linter.unusedSimpArgs false
def statL (c : Int) (r : List UInt8) : List UInt8 := verL ++ 32 :: (Lib.decDigits c.toNat ++ 32 :: r)
def rsnOK (r : List UInt8) : Bool := decide (r.length ≤ 100) && r.all isPl
def statE (c : Int) (r : List UInt8) : Except Int (List UInt8) := if c < 100 ∨ 599 < c then .error 1 else if rsnOK r = true then .ok (statL c r ++ [13, 10]) else .error 3
/-- the line tells this -/
def IsStat (l : List UInt8) (c : Int) (r : List UInt8) : Prop := 100 ≤ c ∧ c ≤ 599 ∧ rsnOK r = true ∧ l = statL c r
theorem statE_is {l : List UInt8} {c : Int} {r : List UInt8} : statE c r = .ok (l ++ [13, 10]) ↔ IsStat l c r := by
  unfold statE IsStat
  by_cases h : c < 100 ∨ 599 < c
  · rw [if_pos h]
    constructor
    · intro h'; cases h'
    · rintro ⟨a, b, _⟩; omega
  · rw [if_neg h]
    by_cases hr : rsnOK r = true
    · rw [if_pos hr]
      constructor
      · intro h'
        injection h' with h'
        exact ⟨by omega, by omega, hr, (List.append_cancel_right h').symm⟩
      · rintro ⟨_, _, _, e⟩
        rw [e]
    · rw [if_neg hr]
      constructor
      · intro h'; cases h'
      · rintro ⟨_, _, a, _⟩; exact absurd a hr
theorem dec3 {n : Nat} (h0 : 100 ≤ n) (h1 : n ≤ 999) : (Lib.decDigits n).length = 3 := by
  rw [dec_step (by omega), dec_step (n := n / 10) (by omega), Lib.decDigits_one (show n / 10 / 10 < 10 by omega)]
  rfl
theorem stat_cut {c : Int} {r : List UInt8} (h0 : 100 ≤ c) (h1 : c ≤ 599) : 13 ≤ (statL c r).length ∧ ((statL c r).drop 9).take 3 = Lib.decDigits c.toNat ∧ (statL c r).drop 13 = r := by
  have hd := dec3 (n := c.toNat) (by omega) (by omega)
  unfold statL
  refine ⟨by simp [verL, hd]; omega, ?_, ?_⟩
  · show (Lib.decDigits c.toNat ++ 32 :: r).take 3 = _
    rw [← hd, List.take_left]
  · show ((Lib.decDigits c.toNat ++ 32 :: r).drop 4) = r
    rw [show 4 = (Lib.decDigits c.toNat).length + 1 from by omega, ← List.drop_drop, List.drop_left]
    rfl
theorem is_one {l : List UInt8} {c c' : Int} {r r' : List UInt8} (h : IsStat l c r) (h' : IsStat l c' r') : c = c' ∧ r = r' := by
  obtain ⟨a1, a2, _, e⟩ := h
  obtain ⟨b1, b2, _, e'⟩ := h'
  have p := stat_cut (r := r) a1 a2
  have q := stat_cut (r := r') b1 b2
  rw [← e] at p
  rw [← e'] at q
  have hd := dec_inj (p.2.1.symm.trans q.2.1)
  exact ⟨by omega, p.2.2.symm.trans q.2.2⟩
noncomputable def stOf (l : List UInt8) : Option (Int × List UInt8) := by
  classical
  exact if h : ∃ p : Int × List UInt8, IsStat l p.1 p.2 then some (Classical.choose h) else none
theorem stOf_yes {l : List UInt8} {c : Int} {r : List UInt8} (h : IsStat l c r) : stOf l = some (c, r) := by
  unfold stOf
  have hx : ∃ p : Int × List UInt8, IsStat l p.1 p.2 := ⟨(c, r), h⟩
  rw [dif_pos hx]
  have := is_one (Classical.choose_spec hx) h
  exact congrArg some (Prod.ext this.1 this.2)
theorem stOf_no {l : List UInt8} (h : ∀ c r, ¬ IsStat l c r) : stOf l = none := by
  unfold stOf
  rw [dif_neg]
  rintro ⟨p, hp⟩
  exact h _ _ hp
noncomputable def stRes (s : List UInt8) : Int × List UInt8 × Int × Int := match lineE s 300 with
  | .error n => (0, [], 0, n)
  | .ok l => match stOf l with
    | none => (0, [], 0, 3)
    | some (c, r) => (c, r, (l.length : Int) + 2, 0)
theorem stRes_err {s : List UInt8} {n : Int} (h : lineE s 300 = .error n) : stRes s = (0, [], 0, n) := by unfold stRes; rw [h]
theorem stRes_no {s l : List UInt8} (h : lineE s 300 = .ok l) (hn : ∀ c r, ¬ IsStat l c r) : stRes s = (0, [], 0, 3) := by unfold stRes; rw [h]; simp only; rw [stOf_no hn]
theorem stRes_yes {s l : List UInt8} {c : Int} {r : List UInt8} (h : lineE s 300 = .ok l) (hn : IsStat l c r) : stRes s = (c, r, (l.length : Int) + 2, 0) := by unfold stRes; rw [h]; simp only; rw [stOf_yes hn]
/-- what the reference tries -/
theorem is_ref {l : List UInt8} {c : Int} {r : List UInt8} (h : IsStat l c r) : 13 ≤ l.length ∧ cnt ((l.drop 9).take 3) 999 = c ∧ l.drop 13 = r := by
  obtain ⟨a1, a2, _, e⟩ := h
  have p := stat_cut (r := r) a1 a2
  rw [← e] at p
  refine ⟨p.1, ?_, p.2.2⟩
  rw [p.2.1, cnt_dec (by omega) (by omega)]
  omega
theorem dec_no32 (n : Nat) : ∀ x ∈ Lib.decDigits n, x ≠ 32 := by
  intro x hx
  have := dec_all n x hx
  rintro rfl
  exact absurd this.1 (by decide)
theorem ver_no32 : ∀ x ∈ verL, x ≠ 32 := by decide
/-- cut at the first two blanks -/
def splK (c : UInt8) : Nat → List UInt8 → List (List UInt8)
  | 0, s => [s]
  | k + 1, s => if Lib.index s [c] == -1 then [s] else s.take (Lib.index s [c]).toNat :: splK c k (s.drop ((Lib.index s [c]).toNat + 1))
theorem splitN3 (s : List UInt8) (c : UInt8) (h : 2 ≤ s.length) : Lib.splitN s [c] 3 = splK c 2 s := by
  unfold Lib.splitN
  rw [show min 3 (s.length + 1) - 1 = 2 from by omega]
  simp only [Lib.splitK, splK, Nat.add_zero, List.length_singleton]
theorem index_free {c : UInt8} : ∀ {p : List UInt8} (r : List UInt8), (∀ x ∈ p, x ≠ c) → Lib.index (p ++ c :: r) [c] = p.length
  | [], r, _ => by rw [List.nil_append, index_hitc]; rfl
  | b :: p, r, h => by
    rw [List.cons_append, index_skipc b c _ (h b (by simp)), index_free r (fun x hx => h x (by simp [hx]))]
    rw [if_neg (by simp)]
    simp
theorem splK_step {c : UInt8} {p : List UInt8} (r : List UInt8) (k : Nat) (h : ∀ x ∈ p, x ≠ c) : splK c (k + 1) (p ++ c :: r) = p :: splK c k r := by
  rw [splK, index_free r h, if_neg (by simp)]
  simp
theorem splK_stat (c : Int) (r : List UInt8) : splK 32 2 (statL c r) = [verL, Lib.decDigits c.toNat, r] := by
  unfold statL
  rw [splK_step _ _ ver_no32, splK_step _ _ (dec_no32 _)]
  rfl
theorem splitK_mem (c : UInt8) : ∀ (k : Nat) (s : List UInt8), ∀ p ∈ Lib.splitK [c] 0 k s, p.length ≤ s.length
  | 0, s, p, h => by simp [Lib.splitK] at h; rw [h]; exact Nat.le_refl _
  | k + 1, s, p, h => by
    rw [Lib.splitK] at h
    split at h
    · simp at h; rw [h]; exact Nat.le_refl _
    · rcases List.mem_cons.1 h with h | h
      · rw [h, List.length_take]; omega
      · have := splitK_mem c k _ p h
        rw [List.length_drop] at this; omega
theorem stat_words {l : List UInt8} {c : Int} {r : List UInt8} (h : IsStat l c r) : Lib.splitN l [32] 3 = [verL, Lib.decDigits c.toNat, r] := by
  have := (is_ref h).1
  rw [splitN3 _ _ (by omega), h.2.2.2, splK_stat]
theorem no_of_len {l : List UInt8} (h : (Lib.splitN l [32] 3).length ≠ 3) : ∀ c r, ¬ IsStat l c r := by
  intro c r h'
  rw [stat_words h'] at h
  exact h rfl
theorem no_of_atoi {l a b d : List UInt8} (h : Lib.splitN l [32] 3 = [a, b, d]) (hv : ∀ u, Lib.atoiAll b ≠ .ok u) : ∀ c r, ¬ IsStat l c r := by
  intro c r h'
  have e := stat_words h'
  rw [h] at e
  simp only [List.cons.injEq, and_true] at e
  have := atoiAll_dec (n := c.toNat) (by have := h'.2.1; omega)
  exact hv _ (by rw [e.2.1]; exact this)
theorem no_of_print {l a b d : List UInt8} {v : Int} (h : Lib.splitN l [32] 3 = [a, b, d]) (hv : Lib.atoiAll b = .ok v) (hp : statE v d ≠ .ok (l ++ [13, 10])) : ∀ c r, ¬ IsStat l c r := by
  intro c r h'
  have e := stat_words h'
  rw [h] at e
  simp only [List.cons.injEq, and_true] at e
  have ha := atoiAll_dec (n := c.toNat) (by have := h'.2.1; omega)
  rw [← e.2.1, hv] at ha
  injection ha with ha
  refine hp (statE_is.2 ?_)
  rw [e.2.2, ha, show ((c.toNat : Nat) : Int) = c from by have := h'.1; omega]
  exact h'
theorem statE_err {c : Int} {r : List UInt8} {n : Int} (h : statE c r = .error n) : n ≠ 0 := by
  unfold statE at h
  split at h
  · injection h with h; omega
  · split at h
    · cases h
    · injection h with h; omega
theorem statE_len {c : Int} {r t : List UInt8} (h : statE c r = .ok t) : t.length ≤ 200 := by
  unfold statE at h
  split at h
  · cases h
  · next h1 =>
    split at h
    · next h2 =>
      injection h with h
      have hd := dec3 (n := c.toNat) (by omega) (by omega)
      unfold rsnOK at h2
      simp only [Bool.and_eq_true, decide_eq_true_eq] at h2
      rw [← h]
      simp [statL, verL, hd]
      omega
    · cases h
theorem short_no {l : List UInt8} (h : l.length < 13) : ∀ c r, ¬ IsStat l c r := by
  intro c r h'
  have := (is_ref h').1
  omega
theorem all_filter9 (l : List UInt8) : ((l.flatMap fun x => if x = 9 then [] else [x]).all fun c => decide ((32 : Int) ≤ c.toNat) && decide ((c.toNat : Int) ≤ 126)) = l.all isPl := by
  induction l with
  | nil => rfl
  | cons a l ih =>
    rw [List.flatMap_cons, List.all_append, ih, List.all_cons]
    congr 1
    unfold isPl
    by_cases h : a = 9
    · subst h; rfl
    · rw [if_neg h]
      have : ((a.toNat : Int) == 9) = false := by
        rw [beq_eq_false_iff_ne]
        intro h9
        exact h (UInt8.toNat_inj.1 (by show a.toNat = 9; omega))
      simp [this]
end Go.Larder
