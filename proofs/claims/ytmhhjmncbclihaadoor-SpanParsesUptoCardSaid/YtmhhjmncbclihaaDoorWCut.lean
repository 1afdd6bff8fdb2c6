/- Walks through token.cut and the reference's parts, Trim, and strings.HasPrefix, HasSuffix. -/
import Derived.Test.YtmhhjmncbclihaaDoorWTok
import Derived.Test.YtmhhjmncbclihaaDoorSpecCut
namespace Go.Proofs.YtmhhjmncbclihaaDoor
open Go.RowKit Go.Larder
set_option linter.unusedVariables false
set_option linter.unusedSimpArgs false

theorem sl_str : SlT Tryd.prog 22 9 1 16 := SlT.mk' (z := .string ByteArray.empty) Tryd.underlying22 (by kernel_rfl) rfl

theorem w_HasPrefix (s p : List UInt8) (hs : s.length ≤ 140737488351232) (hp : p.length ≤ 140737488351232) (w : World) :
    Calls Tryd.prog 61 #[S s, S p] w fun e w' => e = .returned (.bool (Lib.hasPrefix s p)) ∧ w = w' := by
  have H := Lib.hid (Lib.hasPrefix_of_take s p)
  by_cases h : p.length ≤ s.length
  · have Hd := Lib.hid (show decide (p.length ≤ s.length) = true from by simpa using h)
    go_enter Tryd.func61, Tryd.ntmps61
    go_wp2
    go_ret
    exact ⟨ret_bool (by rw [← H.out, Hd.out]; rfl), rfl⟩
  · have Hd := Lib.hid (show decide (p.length ≤ s.length) = false from by simpa using h)
    go_enter Tryd.func61, Tryd.ntmps61
    go_wp2
    go_ret
    exact ⟨ret_bool (by rw [← H.out, Hd.out]; rfl), rfl⟩

theorem w_HasSuffix (s p : List UInt8) (hs : s.length ≤ 140737488351232) (hp : p.length ≤ 140737488351232) (w : World) :
    Calls Tryd.prog 99 #[S s, S p] w fun e w' => e = .returned (.bool (Lib.hasSuffix s p)) ∧ w = w' := by
  have H := Lib.hid (Lib.hasSuffix_of_drop s p)
  by_cases h : p.length ≤ s.length
  · have Hd := Lib.hid (show decide (p.length ≤ s.length) = true from by simpa using h)
    have hsub : ((s.length : Int) - (p.length : Int)).toNat = s.length - p.length := by omega
    have ht : List.take (s.length - (s.length - p.length)) (List.drop (s.length - p.length) s) = List.drop (s.length - p.length) s := List.take_of_length_le (by simp)
    go_enter Tryd.func99, Tryd.ntmps99
    go_wp2
    go_ret
    refine ⟨ret_bool ?_, rfl⟩
    rw [← H.out, Hd.out]
    first | rfl | simp
  · have Hd := Lib.hid (show decide (p.length ≤ s.length) = false from by simpa using h)
    go_enter Tryd.func99, Tryd.ntmps99
    go_wp2
    go_ret
    exact ⟨ret_bool (by rw [← H.out, Hd.out]; rfl), rfl⟩

theorem pre_one (a c : UInt8) (r : List UInt8) : Lib.hasPrefix (a :: r) [c] = (c == a) := by simp [Lib.hasPrefix, List.isPrefixOf]
theorem suf_one (b c : UInt8) (m : List UInt8) : Lib.hasSuffix (m ++ [b]) [c] = (c == b) := by
  simp [Lib.hasSuffix, List.isSuffixOf, List.isPrefixOf]

set_option maxRecDepth 100000 in
theorem trim_none (s : List UInt8) (h0 : Lib.hasPrefix s [32] = false) (h1 : Lib.hasSuffix s [32] = false) (h2 : Lib.hasPrefix s [9] = false) (h3 : Lib.hasSuffix s [9] = false) : trim s = s := by
  have k : ∀ b : UInt8, (32 == b) = false → (9 == b) = false → isB b = false := fun b e1 e2 => by
    simp [isB] at e1 e2 ⊢
    constructor
    · intro h; exact e1 (UInt8.toNat_inj.1 (by simpa using (show (32 : Nat) = b.toNat by omega)))
    · intro h; exact e2 (UInt8.toNat_inj.1 (by simpa using (show (9 : Nat) = b.toNat by omega)))
  apply trim_done
  · intro b hb
    cases s with
    | nil => cases hb
    | cons a r => cases hb; rw [pre_one] at h0 h2; exact k _ h0 h2
  · intro b hb
    rcases nil_or_snoc s with rfl | ⟨m, b', rfl⟩
    · cases hb
    · simp at hb; subst hb; rw [suf_one] at h1 h3; exact k _ h1 h3

theorem w_TrimR (n : Nat) : ∀ (s : List UInt8) (w : World), s.length ≤ n → n ≤ 140737488351232 →
    Calls Tryd.prog 68 #[S s] w fun e w' => e = .returned (S (trim s)) ∧ Below w.heap.size w w' := by
  induction n with
  | zero =>
    intro s w hn hN
    obtain rfl : s = [] := List.eq_nil_of_length_eq_zero (by omega)
    have f0 : Lib.hasPrefix [] [32] = false := rfl
    have f1 : Lib.hasSuffix [] [32] = false := rfl
    have f2 : Lib.hasPrefix [] [9] = false := rfl
    have f3 : Lib.hasSuffix [] [9] = false := rfl
    go_enter Tryd.func68, Tryd.ntmps68
    go_wp2_with fail
    refine wp_loop_rounds 3 ?_
    rw [rounds_succ]
    go_wp2_with (first
      | (go_at_call 61; refine (w_HasPrefix _ _ (by first | omega | (simp; done) | (simp; omega)) (by simp) _).mono ?_; rintro e w' ⟨rfl, rfl⟩)
      | (go_at_call 99; refine (w_HasSuffix _ _ (by first | omega | (simp; done) | (simp; omega)) (by simp) _).mono ?_; rintro e w' ⟨rfl, rfl⟩))
    rw [rounds_succ]
    go_wp2_with (first
      | (go_at_call 61; refine (w_HasPrefix _ _ (by first | omega | (simp; done) | (simp; omega)) (by simp) _).mono ?_; rintro e w' ⟨rfl, rfl⟩)
      | (go_at_call 99; refine (w_HasSuffix _ _ (by first | omega | (simp; done) | (simp; omega)) (by simp) _).mono ?_; rintro e w' ⟨rfl, rfl⟩))
    rw [rounds_succ]
    go_wp2_with (first
      | (go_at_call 61; refine (w_HasPrefix _ _ (by first | omega | (simp; done) | (simp; omega)) (by simp) _).mono ?_; rintro e w' ⟨rfl, rfl⟩)
      | (go_at_call 99; refine (w_HasSuffix _ _ (by first | omega | (simp; done) | (simp; omega)) (by simp) _).mono ?_; rintro e w' ⟨rfl, rfl⟩))
    go_ret
    exact ⟨rfl, by go_grown⟩
  | succ n ih =>
    intro s w hn hN
    have IH := Lib.hid ih
    clear ih
    cases h0 : Lib.hasPrefix s [32]
    · cases h1 : Lib.hasSuffix s [32]
      · cases h2 : Lib.hasPrefix s [9]
        · cases h3 : Lib.hasSuffix s [9]
          · have Hf := Lib.hid (trim_none s h0 h1 h2 h3)
            go_enter Tryd.func68, Tryd.ntmps68
            go_wp2_with fail
            refine wp_loop_rounds 3 ?_
            rw [rounds_succ]
            go_wp2_with (first
              | (go_at_call 61; refine (w_HasPrefix _ _ (by first | omega | (simp; done) | (simp; omega)) (by simp) _).mono ?_; rintro e w' ⟨rfl, rfl⟩)
              | (go_at_call 99; refine (w_HasSuffix _ _ (by first | omega | (simp; done) | (simp; omega)) (by simp) _).mono ?_; rintro e w' ⟨rfl, rfl⟩))
            rw [rounds_succ]
            go_wp2_with (first
              | (go_at_call 61; refine (w_HasPrefix _ _ (by first | omega | (simp; done) | (simp; omega)) (by simp) _).mono ?_; rintro e w' ⟨rfl, rfl⟩)
              | (go_at_call 99; refine (w_HasSuffix _ _ (by first | omega | (simp; done) | (simp; omega)) (by simp) _).mono ?_; rintro e w' ⟨rfl, rfl⟩))
            rw [rounds_succ]
            go_wp2_with (first
              | (go_at_call 61; refine (w_HasPrefix _ _ (by first | omega | (simp; done) | (simp; omega)) (by simp) _).mono ?_; rintro e w' ⟨rfl, rfl⟩)
              | (go_at_call 99; refine (w_HasSuffix _ _ (by first | omega | (simp; done) | (simp; omega)) (by simp) _).mono ?_; rintro e w' ⟨rfl, rfl⟩))
            go_ret
            exact ⟨ret_S Hf.out.symm, by go_grown⟩
          · rcases nil_or_snoc s with rfl | ⟨m, b, rfl⟩
            · cases h3
            · have hm : m.length + 1 ≤ n + 1 := by simpa using hn
              have Hb := Lib.hid (trim_snoc m b (by rw [suf_one] at h3; simp at h3; subst h3; rfl))
              go_enter Tryd.func68, Tryd.ntmps68
              go_wp2_with fail
              refine wp_loop_rounds 2 ?_
              rw [rounds_succ]
              go_wp2_with (first
                | (go_at_call 61; refine (w_HasPrefix _ _ (by first | omega | (simp; done) | (simp; omega)) (by simp) _).mono ?_; rintro e w' ⟨rfl, rfl⟩)
                | (go_at_call 99; refine (w_HasSuffix _ _ (by first | omega | (simp; done) | (simp; omega)) (by simp) _).mono ?_; rintro e w' ⟨rfl, rfl⟩)
                | (go_at_call 68; refine (IH.out m _ (by first | omega | (simp at hn; omega)) (by omega)).mono ?_; rintro e w' ⟨rfl, hb⟩))
              rw [rounds_succ]
              go_wp2_with (first
                | (go_at_call 61; refine (w_HasPrefix _ _ (by first | omega | (simp; done) | (simp; omega)) (by simp) _).mono ?_; rintro e w' ⟨rfl, rfl⟩)
                | (go_at_call 99; refine (w_HasSuffix _ _ (by first | omega | (simp; done) | (simp; omega)) (by simp) _).mono ?_; rintro e w' ⟨rfl, rfl⟩)
                | (go_at_call 68; refine (IH.out m _ (by first | omega | (simp at hn; omega)) (by omega)).mono ?_; rintro e w' ⟨rfl, hb⟩))
              go_ret
              exact ⟨ret_S Hb.out.symm, ((Below.refl _ _).alloc (Nat.le_refl _) _).trans (hb.mono (by simp))⟩
        · rcases s with _ | ⟨a, r⟩
          · cases h2
          · have Hb := Lib.hid (trim_cons a r (by rw [pre_one] at h2; simp at h2; subst h2; rfl))
            go_enter Tryd.func68, Tryd.ntmps68
            go_wp2_with fail
            refine wp_loop_rounds 2 ?_
            rw [rounds_succ]
            go_wp2_with (first
              | (go_at_call 61; refine (w_HasPrefix _ _ (by first | omega | (simp; done) | (simp; omega)) (by simp) _).mono ?_; rintro e w' ⟨rfl, rfl⟩)
              | (go_at_call 99; refine (w_HasSuffix _ _ (by first | omega | (simp; done) | (simp; omega)) (by simp) _).mono ?_; rintro e w' ⟨rfl, rfl⟩)
              | (go_at_call 68; refine (IH.out r _ (by first | omega | (simp at hn; omega)) (by omega)).mono ?_; rintro e w' ⟨rfl, hb⟩))
            rw [rounds_succ]
            go_wp2_with (first
              | (go_at_call 61; refine (w_HasPrefix _ _ (by first | omega | (simp; done) | (simp; omega)) (by simp) _).mono ?_; rintro e w' ⟨rfl, rfl⟩)
              | (go_at_call 99; refine (w_HasSuffix _ _ (by first | omega | (simp; done) | (simp; omega)) (by simp) _).mono ?_; rintro e w' ⟨rfl, rfl⟩)
              | (go_at_call 68; refine (IH.out r _ (by first | omega | (simp at hn; omega)) (by omega)).mono ?_; rintro e w' ⟨rfl, hb⟩))
            go_ret
            exact ⟨ret_S Hb.out.symm, ((Below.refl _ _).alloc (Nat.le_refl _) _).trans (hb.mono (by simp))⟩
      · rcases nil_or_snoc s with rfl | ⟨m, b, rfl⟩
        · cases h1
        · have hm : m.length + 1 ≤ n + 1 := by simpa using hn
          have Hb := Lib.hid (trim_snoc m b (by rw [suf_one] at h1; simp at h1; subst h1; rfl))
          go_enter Tryd.func68, Tryd.ntmps68
          go_wp2_with fail
          refine wp_loop_rounds 1 ?_
          rw [rounds_succ]
          go_wp2_with (first
            | (go_at_call 61; refine (w_HasPrefix _ _ (by first | omega | (simp; done) | (simp; omega)) (by simp) _).mono ?_; rintro e w' ⟨rfl, rfl⟩)
            | (go_at_call 99; refine (w_HasSuffix _ _ (by first | omega | (simp; done) | (simp; omega)) (by simp) _).mono ?_; rintro e w' ⟨rfl, rfl⟩)
            | (go_at_call 68; refine (IH.out m _ (by first | omega | (simp at hn; omega)) (by omega)).mono ?_; rintro e w' ⟨rfl, hb⟩))
          go_ret
          exact ⟨ret_S Hb.out.symm, ((Below.refl _ _).alloc (Nat.le_refl _) _).trans (hb.mono (by simp))⟩
    · rcases s with _ | ⟨a, r⟩
      · cases h0
      · have Hb := Lib.hid (trim_cons a r (by rw [pre_one] at h0; simp at h0; subst h0; rfl))
        go_enter Tryd.func68, Tryd.ntmps68
        go_wp2_with fail
        refine wp_loop_rounds 1 ?_
        rw [rounds_succ]
        go_wp2_with (first
          | (go_at_call 61; refine (w_HasPrefix _ _ (by first | omega | (simp; done) | (simp; omega)) (by simp) _).mono ?_; rintro e w' ⟨rfl, rfl⟩)
          | (go_at_call 99; refine (w_HasSuffix _ _ (by first | omega | (simp; done) | (simp; omega)) (by simp) _).mono ?_; rintro e w' ⟨rfl, rfl⟩)
          | (go_at_call 68; refine (IH.out r _ (by first | omega | (simp at hn; omega)) (by omega)).mono ?_; rintro e w' ⟨rfl, hb⟩))
        go_ret
        exact ⟨ret_S Hb.out.symm, ((Below.refl _ _).alloc (Nat.le_refl _) _).trans (hb.mono (by simp))⟩

/-- What R.parts answers, ahead of the last loop. -/
def PartsPost (t : TypeId) (w : World) (r : List (List UInt8) × Bool) (e : Ending) (w' : World) : Prop :=
  ∃ A c, e = .returned (.tuple #[.slice A (r.1.map trim).length c, .bool r.2]) ∧ OwnL encS w' w.heap.size t A c (r.1.map trim) ∧ Below w.heap.size w w'

end Go.Proofs.YtmhhjmncbclihaaDoor
