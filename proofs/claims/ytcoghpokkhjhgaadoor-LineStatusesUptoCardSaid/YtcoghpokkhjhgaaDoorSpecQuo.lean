/- Quoted texts; ReplaceAll of one byte. No program in sight. -/
import Derived.Test.YtcoghpokkhjhgaaDoorSpecTok
import Derived.Lib.Replace
import Derived.Lib.IndexLaws
import Derived.Lib.IndexBytes
namespace Go.Larder
open Go.Lib
set_option linter.unusedVariables false
set_option linter.unusedSimpArgs false
theorem repK (c : UInt8) (new : List UInt8) : ∀ (n : Nat) (s : List UInt8), s.length ≤ n → replaceK [c] new (count s [c]) s = s.flatMap fun x => if x = c then new else [x]
  | n, s, hn => by
    by_cases hm : index s [c] = -1
    · rw [count_miss hm]
      unfold replaceK
      rw [index_one] at hm
      have hno := indexByte_none hm
      have : ∀ l : List UInt8, (∀ k : Nat, l[k]? ≠ some c) → l.flatMap (fun x => if x = c then new else [x]) = l := by
        intro l
        induction l with
        | nil => intro _; rfl
        | cons a l ih =>
          intro h
          have ha : a ≠ c := fun e => h 0 (by simp [e])
          rw [List.flatMap_cons, if_neg ha, ih (fun k => by have := h (k + 1); simpa using this)]
          rfl
      exact (this s hno).symm
    · have hge := index_ge s [c]
      obtain ⟨i, hi⟩ : ∃ i : Nat, index s [c] = i := ⟨(index s [c]).toNat, by omega⟩
      have hc := count_hit (sub := [c]) (by simp) hi
      rw [hc, Nat.add_comm, replaceK_hit [c] new _ s i hi]
      rw [index_one] at hi
      obtain ⟨h1, h2⟩ := indexByte_some hi
      have hil : i < s.length := (List.getElem?_eq_some_iff.1 h1).1
      have hsplit : s = s.take i ++ c :: s.drop (i + 1) := by
        have h8 := List.drop_eq_getElem_cons hil
        rw [(List.getElem?_eq_some_iff.1 h1).2] at h8
        rw [← h8, List.take_append_drop]
      have htk : (s.take i).flatMap (fun x => if x = c then new else [x]) = s.take i := by
        have : ∀ l : List UInt8, (∀ x ∈ l, x ≠ c) → l.flatMap (fun x => if x = c then new else [x]) = l := by
          intro l
          induction l with
          | nil => intro _; rfl
          | cons a l ih =>
            intro h
            rw [List.flatMap_cons, if_neg (h a (by simp)), ih (fun x hx => h x (by simp [hx]))]
            rfl
        refine this _ fun x hx e => ?_
        subst e
        obtain ⟨k, hk⟩ := List.getElem?_of_mem hx
        have hki : k < i := by
          have := (List.getElem?_eq_some_iff.1 hk).1
          rw [List.length_take] at this
          omega
        rw [List.getElem?_take_of_lt hki] at hk
        exact h2 k hki hk
      have ih := repK c new (n - 1) (s.drop (i + 1)) (by rw [List.length_drop]; omega)
      have hl1 : i + [c].length = i + 1 := rfl
      rw [hl1, ih]
      conv => rhs; rw [hsplit]
      rw [List.flatMap_append, htk, List.flatMap_cons, if_pos rfl, List.append_assoc]
  termination_by n s _ => s.length
theorem repl_one (c : UInt8) (new s : List UInt8) (h : ([c] == new) = false) : replaceAll s [c] new = s.flatMap fun x => if x = c then new else [x] := by
  unfold replaceAll replace
  rw [if_neg (by simp [h])]
  unfold replaceNum
  rw [if_pos (.inl (by decide))]
  exact repK c new s.length s (Nat.le_refl _)
def quoC (c : UInt8) : List UInt8 := if c = 34 ∨ c = 92 then [92, c] else [c]
def quoL (s : List UInt8) : List UInt8 := s.flatMap quoC
theorem quo_rep (s : List UInt8) : replaceAll (replaceAll s [92] [92, 92]) [34] [92, 34] = quoL s := by
  rw [repl_one _ _ _ (by decide), repl_one _ _ _ (by decide)]
  unfold quoL
  induction s with
  | nil => rfl
  | cons a s ih =>
    rw [List.flatMap_cons, List.flatMap_append, ih, List.flatMap_cons]
    congr 1
    unfold quoC
    by_cases h1 : a = 92
    · subst h1; decide
    · by_cases h2 : a = 34
      · subst h2; decide
      · simp [h1, h2]
theorem quoL_len : ∀ s : List UInt8, (quoL s).length ≤ 2 * s.length
  | [] => by simp [quoL]
  | c :: s => by
    have := quoL_len s
    unfold quoL quoC at *
    rw [List.flatMap_cons, List.length_append]
    split <;> simp at * <;> omega
theorem quoL_snoc {l : List UInt8} {k : Nat} {c : UInt8} (h : l[k]? = some c) : quoL (l.take (k + 1)) = quoL (l.take k) ++ quoC c := by
  rw [List.take_add_one, h]; simp [quoL]
def quoE (s : List UInt8) : Except Int (List UInt8) := if 1000 < s.length then .error 2 else if s.all isPl then .ok (34 :: (quoL s ++ [34])) else .error 3
end Go.Larder
