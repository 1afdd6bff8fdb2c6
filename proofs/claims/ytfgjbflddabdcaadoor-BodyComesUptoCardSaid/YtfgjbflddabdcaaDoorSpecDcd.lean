/- A body in chunks, read as it comes. No program in sight. -/
import Derived.Test.YtfgjbflddabdcaaDoorSpecFp
import Derived.Test.YtfgjbflddabdcaaDoorSpecIs
namespace Go.Larder
open Go.RowKit
set_option linter.unusedVariables false
set_option linter.unusedSimpArgs false
/-- how many bytes ahead, at most m, are p's -/
def tw (p : UInt8 → Bool) : Nat → List UInt8 → Nat
  | 0, _ => 0
  | _ + 1, [] => 0
  | m + 1, c :: r => if p c = true then tw p m r + 1 else 0
theorem tw_le (p : UInt8 → Bool) : ∀ (m : Nat) (r : List UInt8), tw p m r ≤ r.length ∧ tw p m r ≤ m
  | 0, r => by simp [tw]
  | m + 1, [] => by simp [tw]
  | m + 1, c :: r => by
    have := tw_le p m r
    simp only [tw, List.length_cons]
    split <;> omega
theorem tw_app {p : UInt8 → Bool} : ∀ {m : Nat} {r : List UInt8} (x : List UInt8), tw p m r < r.length → tw p m (r ++ x) = tw p m r
  | 0, r, x, _ => by simp [tw]
  | m + 1, [], x, h => by simp at h
  | m + 1, c :: r, x, h => by
    simp only [tw, List.cons_append, List.length_cons] at h ⊢
    by_cases hc : p c = true
    · rw [if_pos hc] at h
      rw [if_pos hc, if_pos hc, tw_app x (by omega)]
    · rw [if_neg hc, if_neg hc]
theorem tw_go {p : UInt8 → Bool} {m : Nat} {c : UInt8} {r : List UInt8} (h : p c = true) : tw p (m + 1) (c :: r) = tw p m r + 1 := by simp [tw, h]
theorem tw_stop {p : UInt8 → Bool} {m : Nat} {c : UInt8} {r : List UInt8} (h : p c = false) : tw p (m + 1) (c :: r) = 0 := by simp [tw, h]
/-- a hex digit; its value -/
def isHx (c : UInt8) : Bool := (decide (48 ≤ c.toNat) && decide (c.toNat ≤ 57)) || (decide (97 ≤ c.toNat) && decide (c.toNat ≤ 102)) || (decide (65 ≤ c.toNat) && decide (c.toNat ≤ 70))
def hxv (c : UInt8) : Nat := if c.toNat ≤ 57 then c.toNat - 48 else if c.toNat ≤ 70 then c.toNat - 55 else c.toNat - 87
def hxN (l : List UInt8) : Nat := l.foldl (fun a c => 16 * a + hxv c) 0
theorem hxv_lt {c : UInt8} (h : isHx c = true) : hxv c < 16 := by
  unfold isHx at h; unfold hxv
  simp at h
  split
  · omega
  · split <;> omega
/-- the hex digits ahead; behind them, where an extension ends -/
def hk (r : List UInt8) : Nat := tw isHx 4 r
def he (r : List UInt8) : Nat := if (r.drop (hk r)).head? = some 59 then hk r + 1 + tw isPl 50 (r.drop (hk r + 1)) else hk r
/-- A chunk's head: its number, and how many bytes it has. -/
def headS (r : List UInt8) : Except Int (Nat × Nat) :=
  if r = [] then .error 8 else if hk r = 0 then .error 3 else if r.drop (he r) = [] ∨ r.drop (he r) = [13] then .error 8
  else if (r.drop (he r)).take 2 = [13, 10] then .ok (hxN (r.take (hk r)), he r + 2) else .error 3
theorem he_le (r : List UInt8) : he r ≤ r.length := by
  unfold he
  split
  · next h =>
    have h1 := (tw_le isPl 50 (r.drop (hk r + 1))).1
    have h2 : hk r < r.length := by
      rcases Nat.lt_or_ge (hk r) r.length with h3 | h3
      · exact h3
      · rw [List.drop_eq_nil_of_le h3] at h; cases h
    rw [List.length_drop] at h1
    omega
  · exact (tw_le isHx 4 r).1
theorem hk_le (r : List UInt8) : hk r ≤ he r := by unfold he; split <;> omega
theorem hk4 (r : List UInt8) : hk r ≤ 4 := (tw_le isHx 4 r).2
theorem head_ok {r : List UInt8} {n k : Nat} (h : headS r = .ok (n, k)) : 0 < hk r ∧ (r.drop (he r)).take 2 = [13, 10] ∧ n = hxN (r.take (hk r)) ∧ k = he r + 2 ∧ k ≤ r.length := by
  unfold headS at h
  split at h
  · cases h
  · split at h
    · cases h
    · next h0 =>
      split at h
      · cases h
      · split at h
        · next h1 =>
          injection h with h
          injection h with e1 e2
          have := congrArg List.length h1
          rw [List.length_take, List.length_drop] at this
          simp at this
          exact ⟨by omega, h1, e1.symm, e2.symm, by omega⟩
        · cases h
theorem hxN_lt : ∀ (l : List UInt8) (a b : Nat), (∀ c ∈ l, isHx c = true) → a < b → l.foldl (fun a c => 16 * a + hxv c) a < b * 16 ^ l.length
  | [], a, b, _, h => by simpa using h
  | c :: l, a, b, hd, h => by
    have hc := hxv_lt (hd c (by simp))
    have := hxN_lt l (16 * a + hxv c) (b * 16) (fun x hx => hd x (by simp [hx])) (by omega)
    simp only [List.foldl_cons, List.length_cons]
    rw [Nat.pow_succ, Nat.mul_comm (16 ^ l.length) 16, ← Nat.mul_assoc]
    exact this
theorem tw_all {p : UInt8 → Bool} : ∀ {m : Nat} {r : List UInt8}, ∀ c ∈ r.take (tw p m r), p c = true
  | 0, r, c, h => by simp [tw] at h
  | m + 1, [], c, h => by simp [tw] at h
  | m + 1, a :: r, c, h => by
    by_cases ha : p a = true
    · rw [tw_go ha, List.take_succ_cons] at h
      rcases List.mem_cons.1 h with rfl | h
      · exact ha
      · exact tw_all c h
    · rw [tw_stop (by simpa using ha)] at h; simp at h
theorem hx_bd (r : List UInt8) : hxN (r.take (hk r)) ≤ 65535 := by
  have h1 := hxN_lt (r.take (hk r)) 0 1 (fun c hc => tw_all c hc) (by omega)
  have h2 : (r.take (hk r)).length ≤ 4 := by have := hk4 r; rw [List.length_take]; omega
  have h3 : 16 ^ (r.take (hk r)).length ≤ 16 ^ 4 := Nat.pow_le_pow_right (by omega) h2
  unfold hxN
  omega
theorem head_mono {r : List UInt8} {n k : Nat} (h : headS r = .ok (n, k)) (x : List UInt8) : headS (r ++ x) = .ok (n, k) := by
  obtain ⟨h0, h1, hn, hk2, hle⟩ := head_ok h
  have hek := hk_le r
  have e1 : hk (r ++ x) = hk r := tw_app x (by unfold hk at hek; omega)
  have e0 : (r ++ x).drop (hk r) = r.drop (hk r) ++ x := List.drop_append_of_le_length (by omega)
  have e2 : he (r ++ x) = he r := by
    unfold he
    rw [e1, e0]
    have hne : r.drop (hk r) ≠ [] := fun hh => by
      have := List.drop_eq_nil_iff.1 hh; omega
    have hh : (r.drop (hk r) ++ x).head? = (r.drop (hk r)).head? := by
      cases hq : r.drop (hk r) with
      | nil => exact absurd hq hne
      | cons a b => rfl
    rw [hh]
    by_cases h59 : (r.drop (hk r)).head? = some 59
    · rw [if_pos h59, if_pos h59]
      have hl : he r = hk r + 1 + tw isPl 50 (r.drop (hk r + 1)) := by unfold he; rw [if_pos h59]
      rw [List.drop_append_of_le_length (by omega), tw_app x (by rw [List.length_drop]; omega)]
    · rw [if_neg h59, if_neg h59]
  have e3 : (r ++ x).drop (he r) = r.drop (he r) ++ x := List.drop_append_of_le_length (by omega)
  have h2l : 2 ≤ (r.drop (he r)).length := by rw [List.length_drop]; omega
  have e4 : ((r ++ x).drop (he r)).take 2 = [13, 10] := by rw [e3, List.take_append_of_le_length h2l, h1]
  unfold headS
  rw [e1, e2]
  have n1 : ¬ (r ++ x) = [] := fun hh => by have := congrArg List.length (List.append_eq_nil_iff.1 hh).1; simp only [List.length_nil] at this; omega
  have n2 : ¬ ((r ++ x).drop (he r) = [] ∨ (r ++ x).drop (he r) = [13]) := fun hh => by rcases hh with hh | hh <;> rw [hh] at e4 <;> simp at e4
  rw [if_neg n1, if_neg (show ¬ hk r = 0 by omega), if_neg n2, if_pos e4, List.take_append_of_le_length (show hk r ≤ r.length by omega), ← hn, ← hk2]
/-- What is read next: a head, data of so many bytes, the trailer. -/
inductive Stg where
  | hd | dt (n : Nat) | tr
inductive Stp where
  | short | err (e : Int) | go (s : Stg) (out r : List UInt8) | fin (r : List UInt8)
def stepS (s : Stg) (out r : List UInt8) : Stp := match s with
  | .hd => match headS r with
    | .error e => if e = 8 then .short else .err e
    | .ok (n, k) => if 5000 < out.length + n then .err 2 else .go (if n = 0 then .tr else .dt n) out (r.drop k)
  | .dt n => if r.length ≤ n then .short else if r.drop n = [13] then .short else if (r.drop n).take 2 = [13, 10] then .go .hd (out ++ r.take n) (r.drop (n + 2)) else .err 3
  | .tr => match fpE r with
    | .error e => if e = 8 then .short else .err e
    | .ok (_, k) => .fin (r.drop k)
theorem step_shrinks {s s' : Stg} {out out' r r' : List UInt8} (h : stepS s out r = .go s' out' r') : r'.length < r.length := by
  unfold stepS at h
  cases s with
  | hd =>
    simp only at h
    cases hq : headS r with
    | error e => simp only [hq] at h; split at h <;> cases h
    | ok p =>
      obtain ⟨n, k⟩ := p
      obtain ⟨h0, _, _, hk2, hle⟩ := head_ok hq
      simp only [hq] at h
      split at h
      · cases h
      · injection h with _ _ h; subst h; rw [List.length_drop]; omega
  | dt n =>
    simp only at h
    split at h
    · cases h
    · split at h
      · cases h
      · split at h
        · injection h with _ _ h; subst h; rw [List.length_drop]; omega
        · cases h
  | tr =>
    simp only at h
    cases hq : fpE r with
    | error e => simp only [hq] at h; split at h <;> cases h
    | ok p => obtain ⟨a, k⟩ := p; simp only [hq] at h; cases h
theorem step_mono {s s' : Stg} {out out' r r' : List UInt8} (h : stepS s out r = .go s' out' r') (x : List UInt8) : stepS s out (r ++ x) = .go s' out' (r' ++ x) := by
  unfold stepS at h ⊢
  cases s with
  | hd =>
    simp only at h ⊢
    cases hq : headS r with
    | error e => simp only [hq] at h; split at h <;> cases h
    | ok p =>
      obtain ⟨n, k⟩ := p
      have hle := (head_ok hq).2.2.2.2
      rw [head_mono hq x]
      simp only [hq] at h ⊢
      split at h
      · cases h
      · next h5 =>
        rw [if_neg h5]
        injection h with e1 e2 e3
        rw [e1, e2, ← e3, List.drop_append_of_le_length hle]
  | dt n =>
    simp only at h ⊢
    split at h
    · cases h
    · next h1 =>
      split at h
      · cases h
      · split at h
        · next h3 =>
          injection h with e1 e2 e3
          have h2l : 2 ≤ (r.drop n).length := by
            have := congrArg List.length h3
            rw [List.length_take] at this
            simp at this ⊢
            omega
          have h2l' : n + 2 ≤ r.length := by rw [List.length_drop] at h2l; omega
          have e0 : (r ++ x).drop n = r.drop n ++ x := List.drop_append_of_le_length (by omega)
          have e4 : ((r ++ x).drop n).take 2 = [13, 10] := by rw [e0, List.take_append_of_le_length h2l, h3]
          have n2 : ¬ (r ++ x).drop n = [13] := fun hh => by rw [hh] at e4; simp at e4
          rw [if_neg (by rw [List.length_append]; omega), if_neg n2, if_pos e4, List.take_append_of_le_length (by omega), List.drop_append_of_le_length h2l', e1, e2, e3]
        · cases h
  | tr =>
    simp only at h
    cases hq : fpE r with
    | error e => simp only [hq] at h; split at h <;> cases h
    | ok p => obtain ⟨a, k⟩ := p; simp only [hq] at h; cases h
/-- How a text is read to where it stops. -/
inductive Rd where
  | short (s : Stg) (out r : List UInt8) | err (e : Int) | fin (out r : List UInt8)
def rdS (s : Stg) (out r : List UInt8) : Rd := match h : stepS s out r with
  | .short => .short s out r
  | .err e => .err e
  | .fin r' => .fin out r'
  | .go s' out' r' => rdS s' out' r'
termination_by r.length
decreasing_by exact step_shrinks h
theorem rd_short {s : Stg} {out r : List UInt8} (h : stepS s out r = .short) : rdS s out r = .short s out r := by
  rw [rdS]; split <;> next h' => first | (rw [h] at h'; done) | (rw [h] at h'; cases h'; done) | (rw [h] at h'; cases h'; rfl)
theorem rd_err {s : Stg} {out r : List UInt8} {e : Int} (h : stepS s out r = .err e) : rdS s out r = .err e := by
  rw [rdS]; split <;> next h' => first | (rw [h] at h'; done) | (rw [h] at h'; cases h'; done) | (rw [h] at h'; cases h'; rfl)
theorem rd_fin {s : Stg} {out r r' : List UInt8} (h : stepS s out r = .fin r') : rdS s out r = .fin out r' := by
  rw [rdS]; split <;> next h' => first | (rw [h] at h'; done) | (rw [h] at h'; cases h'; done) | (rw [h] at h'; cases h'; rfl)
theorem rd_go {s s' : Stg} {out out' r r' : List UInt8} (h : stepS s out r = .go s' out' r') : rdS s out r = rdS s' out' r' := by
  rw [rdS]; split <;> next h' => first | (rw [h] at h'; done) | (rw [h] at h'; cases h'; done) | (rw [h] at h'; cases h'; rfl)
/-- What comes behind is read on from where it stopped. -/
theorem rd_mono : ∀ (k : Nat) {s s' : Stg} {out out' r r' : List UInt8}, r.length < k → rdS s out r = .short s' out' r' → ∀ x, rdS s out (r ++ x) = rdS s' out' (r' ++ x)
  | 0, _, _, _, _, _, _, h, _ => absurd h (Nat.not_lt_zero _)
  | k + 1, s, s', out, out', r, r', hk, h => fun x => by
    cases hq : stepS s out r with
    | short => rw [rd_short hq] at h; injection h with e1 e2 e3; rw [e1, e2, e3]
    | err e => rw [rd_err hq] at h; cases h
    | fin r2 => rw [rd_fin hq] at h; cases h
    | go s2 out2 r2 =>
      rw [rd_go hq] at h
      rw [rd_go (step_mono hq x)]
      exact rd_mono k (by have := step_shrinks hq; omega) h x
/-- The whole of a text. -/
def backE (s : List UInt8) : List UInt8 × Int × Int := match rdS .hd [] s with
  | .short _ _ _ => ([], 0, 8)
  | .err e => ([], 0, e)
  | .fin out r => (out, (s.length : Int) - r.length, 0)
end Go.Larder
