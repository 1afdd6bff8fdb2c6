/- Where a text is cut. No program in sight. -/
import Derived.Test.YtmhhjmncbclihaaBase
namespace Go.Larder
open Go.RowKit
set_option linter.unusedVariables false
set_option linter.unusedSimpArgs false
def gear (c : UInt8) : Nat := (((c.toNat + 1) * 2654435761 % 4294967296 ^^^ (c.toNat + 1) * 2654435761 % 4294967296 / 32768) * 2246822519 % 4294967296) ^^^ (((c.toNat + 1) * 2654435761 % 4294967296 ^^^ (c.toNat + 1) * 2654435761 % 4294967296 / 32768) * 2246822519 % 4294967296) / 8192
theorem gear_lt (c : UInt8) : gear c < 4294967296 := by
  unfold gear
  have h1 : ((((c.toNat + 1) * 2654435761 % 4294967296 ^^^ (c.toNat + 1) * 2654435761 % 4294967296 / 32768) * 2246822519 % 4294967296)) < 2 ^ 32 := Nat.mod_lt _ (by omega)
  generalize ((((c.toNat + 1) * 2654435761 % 4294967296 ^^^ (c.toNat + 1) * 2654435761 % 4294967296 / 32768) * 2246822519 % 4294967296)) = y at *
  have h2 : y / 8192 < 2 ^ 32 := by omega
  have := Nat.xor_lt_two_pow h1 h2
  omega
def gearN (n : Nat) : Nat := (((n + 1) * 2654435761 % 4294967296 ^^^ (n + 1) * 2654435761 % 4294967296 / 32768) * 2246822519 % 4294967296) ^^^ (((n + 1) * 2654435761 % 4294967296 ^^^ (n + 1) * 2654435761 % 4294967296 / 32768) * 2246822519 % 4294967296) / 8192
theorem gear_walk1 : ∀ n : Fin 256, bits BinOp.xor IntKind.u32 (bits BinOp.xor IntKind.u32 (((n.val : Int) + 1) % 4294967296 * 2654435761 % 4294967296) (((n.val : Int) + 1) % 4294967296 * 2654435761 % 4294967296 / 32768) * 2246822519 % 4294967296) (bits BinOp.xor IntKind.u32 (((n.val : Int) + 1) % 4294967296 * 2654435761 % 4294967296) (((n.val : Int) + 1) % 4294967296 * 2654435761 % 4294967296 / 32768) * 2246822519 % 4294967296 / 8192) = (gearN n.val : Nat) := by decide +kernel
def gearR (n : Int) : Int := bits BinOp.xor IntKind.u32 ((IntKind.u64.wrap (IntKind.u64.wrap (bits BinOp.xor IntKind.u32 ((IntKind.u64.wrap (IntKind.u64.wrap (IntKind.u64.wrap n + 1) * 2654435761)).tmod 4294967296 % 4294967296) ((IntKind.u64.wrap (IntKind.u64.wrap (IntKind.u64.wrap n + 1) * 2654435761)).tmod 4294967296 % 4294967296 / 32768)) * 2246822519)).tmod 4294967296 % 4294967296) ((IntKind.u64.wrap (IntKind.u64.wrap (bits BinOp.xor IntKind.u32 ((IntKind.u64.wrap (IntKind.u64.wrap (IntKind.u64.wrap n + 1) * 2654435761)).tmod 4294967296 % 4294967296) ((IntKind.u64.wrap (IntKind.u64.wrap (IntKind.u64.wrap n + 1) * 2654435761)).tmod 4294967296 % 4294967296 / 32768)) * 2246822519)).tmod 4294967296 % 4294967296 / 8192)
theorem gear_walk2 : ∀ n : Fin 256, gearR (n.val : Int) = (gearN n.val : Nat) := by decide +kernel
theorem gear1 (c : UInt8) : bits BinOp.xor IntKind.u32 (bits BinOp.xor IntKind.u32 (((c.toNat : Int) + 1) % 4294967296 * 2654435761 % 4294967296) (((c.toNat : Int) + 1) % 4294967296 * 2654435761 % 4294967296 / 32768) * 2246822519 % 4294967296) (bits BinOp.xor IntKind.u32 (((c.toNat : Int) + 1) % 4294967296 * 2654435761 % 4294967296) (((c.toNat : Int) + 1) % 4294967296 * 2654435761 % 4294967296 / 32768) * 2246822519 % 4294967296 / 8192) = (gear c : Nat) := gear_walk1 ⟨c.toNat, c.toNat_lt⟩
theorem gear2 (c : UInt8) : gearR c.toNat = (gear c : Nat) := gear_walk2 ⟨c.toNat, c.toNat_lt⟩
def sumF (s : Nat) (b : UInt8) : Nat := (2 * s + gear b) % 4294967296
def sumC (s : Nat) (l : List UInt8) : Nat := l.foldl sumF s
theorem sumC_cons (s : Nat) (b : UInt8) (l : List UInt8) : sumC s (b :: l) = sumC (sumF s b) l := rfl
theorem sumC_one (s : Nat) (b : UInt8) : sumC s [b] = sumF s b := by rw [sumC_cons]; unfold sumC; rw [List.foldl_nil]
theorem sumC_app (s : Nat) (l m : List UInt8) : sumC s (l ++ m) = sumC (sumC s l) m := by unfold sumC; rw [List.foldl_append]
theorem sumF_lt (s : Nat) (b : UInt8) : sumF s b < 4294967296 := Nat.mod_lt _ (by omega)
theorem sumC_lt {s : Nat} (hs : s < 4294967296) (l : List UInt8) : sumC s l < 4294967296 := by
  induction l generalizing s with
  | nil => exact hs
  | cons b l ih => rw [sumC_cons]; exact ih (sumF_lt _ _)
theorem sumC_shift (l : List UInt8) : ∀ s t : Nat, s < 4294967296 → t < 4294967296 → (s * 2 ^ l.length) % 4294967296 = (t * 2 ^ l.length) % 4294967296 → sumC s l = sumC t l := by
  induction l with
  | nil => intro s t hs ht h; simp at h; rw [Nat.mod_eq_of_lt hs, Nat.mod_eq_of_lt ht] at h; simpa [sumC] using h
  | cons b l ih =>
    intro s t hs ht h
    rw [sumC_cons, sumC_cons]
    refine ih _ _ (sumF_lt _ _) (sumF_lt _ _) ?_
    rw [List.length_cons] at h
    unfold sumF
    have e : ∀ x : Nat, (2 * x + gear b) % 4294967296 * 2 ^ l.length % 4294967296 = (x * 2 ^ (l.length + 1) % 4294967296 + gear b * 2 ^ l.length) % 4294967296 := by
      intro x
      rw [Nat.mod_mul_mod, Nat.add_mul, Nat.pow_succ, Nat.mod_add_mod, Nat.mul_comm 2 x, Nat.mul_assoc, Nat.mul_comm 2]
    rw [e, e, h]
/-- the last 32 bytes alone count -/
theorem sumC_last {l m : List UInt8} (hm : 32 ≤ m.length) : sumC 0 (l ++ m) = sumC 0 m := by
  rw [sumC_app]
  refine sumC_shift m _ _ (sumC_lt (by omega) l) (by omega) ?_
  obtain ⟨d, hd⟩ : ∃ d, m.length = 32 + d := ⟨m.length - 32, by omega⟩
  rw [hd, Nat.pow_add, show (2 : Nat) ^ 32 = 4294967296 from rfl, ← Nat.mul_assoc, Nat.mul_right_comm, Nat.mul_mod_left]
  simp
def isCut (n sum : Nat) : Bool := decide (16 ≤ n) && (decide (sum < 134217728) || n == 128)
/-- the sum, the pieces, what is left -/
abbrev CkS := Nat × List (List UInt8) × List UInt8
def ckStep (st : CkS) (b : UInt8) : CkS :=
  if isCut (st.2.2.length + 1) (sumF st.1 b) = true then (sumF st.1 b, st.2.1 ++ [st.2.2 ++ [b]], []) else (sumF st.1 b, st.2.1, st.2.2 ++ [b])
def ckAll (st : CkS) (l : List UInt8) : CkS := l.foldl ckStep st
def ck (l : List UInt8) : CkS := ckAll (0, [], []) l
theorem ck_yes {st : CkS} {b : UInt8} (h : isCut (st.2.2.length + 1) (sumF st.1 b) = true) : ckStep st b = (sumF st.1 b, st.2.1 ++ [st.2.2 ++ [b]], []) := by unfold ckStep; rw [if_pos h]
theorem ck_no {st : CkS} {b : UInt8} (h : isCut (st.2.2.length + 1) (sumF st.1 b) = false) : ckStep st b = (sumF st.1 b, st.2.1, st.2.2 ++ [b]) := by unfold ckStep; rw [if_neg (by rw [h]; simp)]
theorem ck_sum (st : CkS) (l : List UInt8) : (ckAll st l).1 = sumC st.1 l := by
  induction l generalizing st with
  | nil => rfl
  | cons b l ih =>
    change (ckAll (ckStep st b) l).1 = _
    rw [ih, sumC_cons]
    congr 1
    unfold ckStep
    split <;> rfl
theorem ck_app (st : CkS) (l m : List UInt8) : ckAll st (l ++ m) = ckAll (ckAll st l) m := by unfold ckAll; rw [List.foldl_append]
theorem ck_snoc (st : CkS) (l : List UInt8) (b : UInt8) : ckAll st (l ++ [b]) = ckStep (ckAll st l) b := by rw [ck_app]; rfl
/-- pieces and rest are the text -/
theorem ck_text (st : CkS) (l : List UInt8) : (ckAll st l).2.1.flatten ++ (ckAll st l).2.2 = st.2.1.flatten ++ st.2.2 ++ l := by
  induction l generalizing st with
  | nil => simp [ckAll]
  | cons b l ih =>
    change (ckAll (ckStep st b) l).2.1.flatten ++ (ckAll (ckStep st b) l).2.2 = _
    rw [ih]
    unfold ckStep
    split <;> simp
/-- what was given stays -/
theorem ck_pref (st : CkS) (l : List UInt8) : ∃ q, (ckAll st l).2.1 = st.2.1 ++ q := by
  induction l generalizing st with
  | nil => exact ⟨[], by simp [ckAll]⟩
  | cons b l ih =>
    obtain ⟨q, hq⟩ := ih (ckStep st b)
    change ∃ q, (ckAll (ckStep st b) l).2.1 = _
    rw [hq]
    unfold ckStep
    split
    · exact ⟨_, List.append_assoc _ _ _⟩
    · exact ⟨_, rfl⟩
/-- what was given does not count -/
theorem ck_out (s : Nat) (o r l : List _) : ckAll (s, o, r) l = ((ckAll (s, [], r) l).1, o ++ (ckAll (s, [], r) l).2.1, (ckAll (s, [], r) l).2.2) := by
  induction l generalizing s o r with
  | nil => simp [ckAll]
  | cons b l ih =>
    change ckAll (ckStep (s, o, r) b) l = ((ckAll (ckStep (s, [], r) b) l).1, o ++ (ckAll (ckStep (s, [], r) b) l).2.1, (ckAll (ckStep (s, [], r) b) l).2.2)
    cases h : isCut (r.length + 1) (sumF s b)
    · rw [ck_no (st := (s, o, r)) h, ck_no (st := (s, [], r)) h]
      exact ih _ _ _
    · rw [ck_yes (st := (s, o, r)) h, ck_yes (st := (s, [], r)) h]
      rw [ih _ (o ++ _), ih _ ([] ++ _)]
      simp
theorem ck_rest (st : CkS) (hs : st.2.2.length < 128) (l : List UInt8) : (ckAll st l).2.2.length < 128 := by
  induction l generalizing st with
  | nil => exact hs
  | cons b l ih =>
    refine ih (ckStep st b) ?_
    cases h : isCut (st.2.2.length + 1) (sumF st.1 b)
    · rw [ck_no h]
      simp only [List.length_append, List.length_cons, List.length_nil]
      unfold isCut at h
      rcases Nat.lt_or_ge (st.2.2.length + 1) 128 with h1 | h1
      · omega
      · have h2 : st.2.2.length + 1 = 128 := by omega
        rw [h2] at h
        simp at h
    · rw [ck_yes h]; simp
theorem ck_len (st : CkS) (l : List UInt8) : (ckAll st l).2.1.length ≤ st.2.1.length + l.length := by
  induction l generalizing st with
  | nil => simp [ckAll]
  | cons b l ih =>
    have h := ih (ckStep st b)
    change (ckAll (ckStep st b) l).2.1.length ≤ _
    have h2 : (ckStep st b).2.1.length ≤ st.2.1.length + 1 := by unfold ckStep; split <;> simp
    simp only [List.length_cons]
    omega
theorem ck_len16 (st : CkS) (l : List UInt8) : 16 * (ckAll st l).2.1.length + (ckAll st l).2.2.length ≤ 16 * st.2.1.length + st.2.2.length + l.length := by
  induction l generalizing st with
  | nil => simp [ckAll]
  | cons b l ih =>
    have h := ih (ckStep st b)
    change 16 * (ckAll (ckStep st b) l).2.1.length + (ckAll (ckStep st b) l).2.2.length ≤ _
    have h2 : 16 * (ckStep st b).2.1.length + (ckStep st b).2.2.length ≤ 16 * st.2.1.length + st.2.2.length + 1 := by
      cases hc : isCut (st.2.2.length + 1) (sumF st.1 b)
      · rw [ck_no hc]; simp; omega
      · rw [ck_yes hc]
        unfold isCut at hc
        simp only [Bool.and_eq_true, decide_eq_true_eq] at hc
        simp
        omega
    simp only [List.length_cons]
    omega
/-- pieces -/
def tailP (r : List UInt8) : List (List UInt8) := if r = [] then [] else [r]
def cutC (l : List UInt8) : List (List UInt8) := (ck l).2.1 ++ tailP (ck l).2.2
theorem cutC_flat (l : List UInt8) : (cutC l).flatten = l := by
  have h := ck_text (0, [], []) l
  simp only [List.flatten_nil, List.nil_append] at h
  unfold cutC tailP ck
  split
  · next h0 => rw [h0] at h; simpa using h
  · simpa using h
theorem cutC_x (l : List UInt8) : (cutC (l ++ [120])).length = (ck l).2.1.length + 1 := by
  unfold cutC ck
  rw [ck_snoc]
  cases h : isCut ((ckAll (0, [], []) l).2.2.length + 1) (sumF (ckAll (0, [], []) l).1 120)
  · rw [ck_no h]; simp [tailP]
  · rw [ck_yes h]; simp [tailP]
theorem cutC_x_nil {l : List UInt8} (h : (ck l).2.2 = []) : cutC (l ++ [120]) = (ck l).2.1 ++ [[120]] := by
  unfold cutC ck at *
  rw [ck_snoc, ck_no (by rw [h]; simp [isCut]), h]
  simp [tailP]
theorem ck_take_step {s : List UInt8} {k : Nat} {x : UInt8} (h : s[k]? = some x) : ck (s.take (k + 1)) = ckStep (ck (s.take k)) x := by
  unfold ck
  rw [List.take_add_one, h]
  exact ck_snoc _ _ _
theorem ck_len_eq {s : List UInt8} {k sm : Nat} {o : List (List UInt8)} {r : List UInt8} (hk : k ≤ s.length) (h : ck (s.take k) = (sm, o, r)) : o.flatten.length + r.length = k ∧ s.take k = o.flatten ++ r := by
  have h2 := ck_text (0, [], []) (s.take k)
  unfold ck at h
  rw [h] at h2
  simp only [List.flatten_nil, List.nil_append] at h2
  have h3 := congrArg List.length h2
  rw [List.length_append, List.length_take] at h3
  exact ⟨by omega, h2.symm⟩
theorem ck_seg {s : List UInt8} {k sm F : Nat} {o : List (List UInt8)} {r : List UInt8} {x : UInt8} (h : ck (s.take k) = (sm, o, r)) (hx : s[k]? = some x) (hF : F + r.length = k) : (s.drop F).take (k + 1 - F) = r ++ [x] := by
  have hk : k < s.length := (List.getElem?_eq_some_iff.1 hx).1
  obtain ⟨h1, h2⟩ := ck_len_eq (by omega) h
  have h3 : (s.take (k + 1)).drop F = r ++ [x] := by
    rw [List.take_add_one, hx, h2, List.append_assoc, List.drop_left' (by omega)]
    rfl
  rw [← h3, List.drop_take]
theorem ck_end {s : List UInt8} {sm F : Nat} {o : List (List UInt8)} {r : List UInt8} (h : ck s = (sm, o, r)) (hF : F + r.length = s.length) : s.drop F = r := by
  have h0 : ck (s.take s.length) = (sm, o, r) := by rw [List.take_length]; exact h
  obtain ⟨h1, h2⟩ := ck_len_eq (Nat.le_refl _) h0
  rw [List.take_length] at h2
  conv => lhs; rw [h2]
  rw [List.drop_left' (by omega)]
theorem sum_seg {s : List UInt8} {k sm : Nat} {o : List (List UInt8)} {r : List UInt8} {x : UInt8} (h : ck (s.take k) = (sm, o, r)) (hx : s[k]? = some x) : sumC 0 ((s.drop (k - 31)).take (k + 1 - (k - 31))) = sumF sm x := by
  have hk : k < s.length := (List.getElem?_eq_some_iff.1 hx).1
  have h1 : sm = sumC 0 (s.take k) := by
    have h5 := ck_sum (0, [], []) (s.take k)
    unfold ck at h
    rw [h] at h5
    simpa only using h5
  have h2 : sumF sm x = sumC 0 (s.take (k + 1)) := by rw [List.take_add_one, hx, sumC_app, ← h1, Option.toList_some, sumC_one]
  rw [h2]
  have h3 : s.take (k + 1) = s.take (k - 31) ++ (s.drop (k - 31)).take (k + 1 - (k - 31)) := by
    rw [← List.take_add]
    congr 1
    omega
  rcases Nat.lt_or_ge 31 k with h4 | h4
  · rw [h3]
    refine (sumC_last ?_).symm
    rw [List.length_take, List.length_drop]
    omega
  · rw [show k - 31 = 0 from by omega, List.drop_zero, Nat.sub_zero]
theorem seg_step {s : List UInt8} {lo j : Nat} {x : UInt8} (hlo : lo ≤ j) (hx : s[j]? = some x) : sumC 0 ((s.drop lo).take (j + 1 - lo)) = sumF (sumC 0 ((s.drop lo).take (j - lo))) x := by
  rw [show j + 1 - lo = (j - lo) + 1 from by omega, List.take_add_one, List.getElem?_drop, show lo + (j - lo) = j from by omega, hx, sumC_app, Option.toList_some, sumC_one]
theorem isCut_lt {n sum : Nat} (h : n < 16) : isCut n sum = false := by unfold isCut; rw [decide_eq_false (by omega)]; rfl
theorem isCut_sum {n sum : Nat} (h : 16 ≤ n) (hs : sum < 134217728) : isCut n sum = true := by unfold isCut; rw [decide_eq_true h, decide_eq_true hs]; rfl
theorem isCut_128 {sum : Nat} : isCut 128 sum = true := by unfold isCut; simp
theorem isCut_no {n sum : Nat} (hs : ¬ sum < 134217728) (h : n ≠ 128) : isCut n sum = false := by unfold isCut; rw [decide_eq_false hs]; simp [h]
theorem cutC_nil {s : List UInt8} {sm : Nat} {o : List (List UInt8)} (h : ck s = (sm, o, [])) : cutC s = o := by unfold cutC; rw [h]; simp [tailP]
theorem cutC_some {s : List UInt8} {sm : Nat} {o : List (List UInt8)} {r : List UInt8} (h : ck s = (sm, o, r)) (hr : r ≠ []) : cutC s = o ++ [r] := by unfold cutC; rw [h]; simp [tailP, hr]
theorem cutC_cnt (s : List UInt8) : 16 * (cutC s).length ≤ s.length + 16 := by
  have := ck_len16 (0, [], []) s
  unfold cutC tailP ck
  rw [List.length_append]
  split <;> simp at * <;> omega
theorem ck_ext {l s r : List UInt8} {sm : Nat} {o : List (List UInt8)} (h : ck l = (sm, o, r)) : ck (l ++ s) = ((ckAll (sm, [], r) s).1, o ++ (ckAll (sm, [], r) s).2.1, (ckAll (sm, [], r) s).2.2) := by
  unfold ck at *
  rw [ck_app, h, ck_out]
theorem ck_rl (l : List UInt8) : (ck l).2.2.length < 128 := ck_rest (0, [], []) (by simp) l
theorem ck_sl (l : List UInt8) : (ck l).1 < 4294967296 := by unfold ck; rw [ck_sum]; exact sumC_lt (by omega) _
theorem cutC_take {l r : List UInt8} {sm : Nat} {o : List (List UInt8)} (h : ck l = (sm, o, r)) : (cutC l).take o.length = o ∧ (cutC l).drop o.length = tailP r := by
  have hc : cutC l = o ++ tailP r := by unfold cutC; rw [h]
  rw [hc, List.take_left, List.drop_left]
  exact ⟨rfl, rfl⟩
theorem cutC_length {l r : List UInt8} {sm : Nat} {o : List (List UInt8)} (h : ck l = (sm, o, r)) : (cutC l).length = o.length + (tailP r).length := by
  have hc : cutC l = o ++ tailP r := by unfold cutC; rw [h]
  rw [hc, List.length_append]
theorem tailP_nil : tailP [] = [] := rfl
theorem tailP_some {r : List UInt8} (h : r ≠ []) : tailP r = [r] := by unfold tailP; rw [if_neg h]
theorem cutC_x_len {l r : List UInt8} {sm : Nat} {o : List (List UInt8)} (h : ck l = (sm, o, r)) : (cutC (l ++ [120])).length = o.length + 1 := by rw [cutC_x, h]
theorem cutC_x_at {l : List UInt8} {sm k : Nat} {o : List (List UInt8)} {p : List UInt8} (h : ck l = (sm, o, [])) (hp : (cutC l)[k]? = some p) : (cutC (l ++ [120]))[k]? = some p := by
  have hc : cutC l = o := cutC_nil h
  rw [cutC_x_nil (by rw [h]), h]
  rw [hc] at hp
  rw [List.getElem?_append_left (List.getElem?_eq_some_iff.1 hp).1]
  exact hp
theorem new_pieces {l s r : List UInt8} {sm : Nat} {o : List (List UInt8)} (h : ck l = (sm, o, r)) : ((cutC (l ++ s)).drop o.length).take ((o ++ (ckAll (sm, [], r) s).2.1).length - o.length) = (ckAll (sm, [], r) s).2.1 := by
  have h2 := ck_ext (s := s) h
  have hc : cutC (l ++ s) = o ++ (ckAll (sm, [], r) s).2.1 ++ tailP (ckAll (sm, [], r) s).2.2 := by unfold cutC; rw [h2]
  rw [hc, List.append_assoc, List.drop_left, List.length_append, Nat.add_sub_cancel_left, List.take_left]
theorem sumF_walk (n : Nat) (hn : n < 4294967296) (x : UInt8) : IntKind.u64.wrap (IntKind.u64.wrap (2 * (n : Int)) + IntKind.u64.wrap (gear x : Nat)) = ((2 * n + gear x : Nat) : Int) := by
  have hg := gear_lt x
  generalize gear x = g at *
  have e1 : IntKind.u64.wrap (2 * (n : Int)) = 2 * (n : Int) := IntWalk.u64_in _ ⟨by omega, by omega⟩
  have e3 : IntKind.u64.wrap (g : Int) = (g : Int) := IntWalk.u64_in _ ⟨by omega, by omega⟩
  have e2 : IntKind.u64.wrap (2 * (n : Int) + g) = 2 * (n : Int) + g := IntWalk.u64_in _ ⟨by omega, by omega⟩
  rw [e1, e3, e2]
  omega
end Go.Larder
