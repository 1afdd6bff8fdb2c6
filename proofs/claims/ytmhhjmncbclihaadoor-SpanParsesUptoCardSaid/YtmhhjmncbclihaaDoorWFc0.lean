/- Walks that the fields' checks reach: tokens, plain bytes, the reference's Trim. -/
import Derived.Test.YtmhhjmncbclihaaDoorChecked
import Derived.Test.YtmhhjmncbclihaaDoorSpecIs
import Derived.Test.YtmhhjmncbclihaaDoorSpecTok
import Derived.Test.YtmhhjmncbclihaaDoorSpecCut
import Derived.Lib.Bytealg
import Derived.Laws.Externs
namespace Go.Proofs.YtmhhjmncbclihaaDoor
open Go.RowKit Go.Larder
set_option linter.unusedVariables false
set_option linter.unusedSimpArgs false

set_option maxHeartbeats 1000000 in
set_option maxRecDepth 100000 in
theorem w_liteIndexByte (l : List UInt8) (c : UInt8) (w : World) :
    Calls Tryd.prog 80 #[S l, .int .u8 c.toNat] w fun e w' => e = .returned (.int .i64 (Lib.indexByte l c)) ∧ w = w' := by
  go_enter Tryd.func80, Tryd.ntmps80
  go_wp2
  rw [run_callFunc_extern Tryd.func108 (by kernel_rfl) (by kernel_rfl) (by kernel_rfl) (e := Extern.BytealgIndexByte.indexByte) (by kernel_rfl), Lib.run_indexByteString]
  simp only [Result.andThen]
  rw [Oper.upon_value]
  go_wp2
  go_ret
  exact ⟨by simp, rfl⟩

theorem w_IndexByte (l : List UInt8) (c : UInt8) (w : World) :
    Calls Tryd.prog 43 #[S l, .int .u8 c.toNat] w fun e w' => e = .returned (.int .i64 (Lib.indexByte l c)) ∧ w = w' := by
  go_enter Tryd.func43, Tryd.ntmps43
  go_wp2_with (go_at_call 80; refine (w_liteIndexByte l c _).mono ?_; rintro e w' ⟨rfl, rfl⟩)
  go_ret
  exact ⟨rfl, rfl⟩

set_option maxHeartbeats 1000000 in
theorem fc_liteIndex1 (l : List UInt8) (c : UInt8) (w : World) :
    Calls Tryd.prog 93 #[S l, S [c]] w fun e w' => e = .returned (.int .i64 (Lib.indexByte l c)) ∧ w = w' := by
  cases hcl : ([c] == l)
  · go_enter Tryd.func93, Tryd.ntmps93
    go_wp2_with (go_at_call 80; refine (w_liteIndexByte l c _).mono ?_; rintro e w' ⟨rfl, rfl⟩)
    go_ret
    exact ⟨rfl, rfl⟩
  · have hl : l = [c] := by have := hcl; simp at this; exact this.symm
    subst hl
    have h0 : Lib.indexByte [c] c = 0 := by simp [Lib.indexByte]
    go_enter Tryd.func93, Tryd.ntmps93
    go_wp2_with fail
    go_ret
    exact ⟨by rw [h0]; rfl, rfl⟩
theorem fc_Index1 (l : List UInt8) (c : UInt8) (w : World) :
    Calls Tryd.prog 62 #[S l, S [c]] w fun e w' => e = .returned (.int .i64 (Lib.indexByte l c)) ∧ w = w' := by
  go_enter Tryd.func62, Tryd.ntmps62
  go_wp2_with (go_at_call 93; refine (fc_liteIndex1 l c _).mono ?_; rintro e w' ⟨rfl, rfl⟩)
  go_ret
  exact ⟨rfl, rfl⟩
theorem fc_Contains1 (l : List UInt8) (c : UInt8) (w : World) :
    Calls Tryd.prog 114 #[S l, S [c]] w fun e w' => e = .returned (.bool (inTab l c)) ∧ w = w' := by
  go_enter Tryd.func114, Tryd.ntmps114
  go_wp2_with (go_at_call 62; refine (fc_Index1 l c _).mono ?_; rintro e w' ⟨rfl, rfl⟩)
  go_ret
  exact ⟨rfl, rfl⟩

theorem fc_isTokenByte (c : UInt8) (w : World) :
    Calls Tryd.prog 110 #[.int .u8 c.toNat] w fun e w' => e = .returned (.bool (tokB c)) ∧ w = w' := by
  have hj : (0 : Int) ≤ Lib.indexByte signsL c ↔ inTab signsL c = true := by simp [inTab]
  go_enter Tryd.func110, Tryd.ntmps110
  go_wp2_with (go_at_call 43; refine (w_IndexByte signsL c _).mono ?_; rintro e w' ⟨rfl, rfl⟩)
  all_goals
    go_ret
    rw [tokB_eq]
    refine ⟨?_, rfl⟩
    simp_all [inTab]
    try omega

set_option maxHeartbeats 1000000 in
theorem fc_IsToken (l : List UInt8) (hl : l.length ≤ 140737488351232) (w : World) :
    Calls Tryd.prog 86 #[S l] w fun e w' => e = .returned (.bool (isTok l)) ∧ w = w' := by
  go_enter Tryd.func86, Tryd.ntmps86
  go_wp2_with fail
  go_loop [6] (fun i' => ∃ k : Nat, i' = .int .i64 k ∧ k ≤ l.length ∧ (l.take k).all tokB = true) (fun i' => l.length - (intOf i').toNat)
  case atStart => exact ⟨0, rfl, by omega, rfl⟩
  case round =>
    obtain ⟨k, rfl, hk, hall⟩ := hrel
    by_cases hlt : k < l.length
    · obtain ⟨x, hx, _⟩ := drop_step hlt
      have Hall := Lib.hid hall; clear hall
      have Hx := Lib.hid hx
      have hg : ∀ h, l[k]'h = x := fun h => by rw [List.getElem?_eq_getElem h] at hx; exact Option.some.inj hx
      cases ht : tokB x
      · go_wp2_with (go_at_call 110; refine (fc_isTokenByte x _).mono ?_; rintro e w' ⟨rfl, rfl⟩)
        go_ret
        exact ⟨by simp [isTok, all_bad Hx.out ht], rfl⟩
      · go_wp2_with (go_at_call 110; refine (fc_isTokenByte x _).mono ?_; rintro e w' ⟨rfl, rfl⟩)
        go_round
        case rel => exact ⟨k + 1, by go_num, by omega, all_step Hx.out Hall.out ht⟩
        case measure => simp [intOf]; omega
    · obtain rfl : k = l.length := by omega
      rw [List.take_length] at hall
      go_wp2_with fail
      go_ret
      refine ⟨?_, rfl⟩
      cases l <;> simp_all [isTok]

set_option maxHeartbeats 1000000 in
theorem fc_allOf (l t : List UInt8) (hl : l.length ≤ 140737488351232) (w : World) :
    Calls Tryd.prog 91 #[S l, S t] w fun e w' => e = .returned (.bool (l.all (inTab t))) ∧ w = w' := by
  go_enter Tryd.func91, Tryd.ntmps91
  go_wp2_with fail
  go_loop [8] (fun i' => ∃ k : Nat, i' = .int .i64 k ∧ k ≤ l.length ∧ (l.take k).all (inTab t) = true) (fun i' => l.length - (intOf i').toNat)
  case atStart => exact ⟨0, rfl, by omega, rfl⟩
  case round =>
    obtain ⟨k, rfl, hk, hall⟩ := hrel
    by_cases hlt : k < l.length
    · obtain ⟨x, hx, _⟩ := drop_step hlt
      have Hall := Lib.hid hall; clear hall
      have Hx := Lib.hid hx
      have hg : ∀ h, l[k]'h = x := fun h => by rw [List.getElem?_eq_getElem h] at hx; exact Option.some.inj hx
      have hd : List.take 1 (List.drop k l) = [x] := by rw [List.drop_eq_getElem_cons hlt, hg]; rfl
      have hd2 : List.take (k + 1 - k) (List.drop k l) = [x] := by rw [show k + 1 - k = 1 from by omega]; exact hd
      cases ht : inTab t x
      · go_wp2_with (go_at_call 114; refine (fc_Contains1 t x _).mono ?_; rintro e w' ⟨rfl, rfl⟩)
        go_ret
        have hq := all_bad Hx.out ht
        rw [hq]
        exact ⟨rfl, rfl⟩
      · go_wp2_with (go_at_call 114; refine (fc_Contains1 t x _).mono ?_; rintro e w' ⟨rfl, rfl⟩)
        go_round
        case rel => exact ⟨k + 1, by go_num, by omega, all_step Hx.out Hall.out ht⟩
        case measure => simp [intOf]; omega
    · obtain rfl : k = l.length := by omega
      rw [List.take_length] at hall
      go_wp2_with fail
      go_ret
      exact ⟨rfl, rfl⟩

theorem fc_TokenR (l : List UInt8) (hl : l.length ≤ 140737488351232) (w : World) :
    Calls Tryd.prog 60 #[S l] w fun e w' => e = .returned (.bool (isTok l)) ∧ w = w' := by
  go_enter Tryd.func60, Tryd.ntmps60
  cases l with
  | nil =>
    go_wp2_with fail
    go_ret
    exact ⟨rfl, rfl⟩
  | cons a l =>
    go_wp2_with (go_at_call 91; refine (fc_allOf (a :: l) tokTab hl _).mono ?_; rintro e w' ⟨rfl, rfl⟩)
    go_ret
    exact ⟨rfl, rfl⟩
theorem fc_outside (n lo hi : Int) (w : World) :
    Calls Tryd.prog 46 #[.int .i64 n, .int .i64 lo, .int .i64 hi] w fun e w' => e = .returned (.bool (decide (n < lo) || decide (hi < n))) ∧ w = w' := by
  by_cases h : n < lo
  · have H := Lib.hid (show decide (n < lo) = true from by simpa using h)
    go_enter Tryd.func46, Tryd.ntmps46
    go_wp2
    go_ret
    exact ⟨ret_bool (by rw [H.out]; rfl), rfl⟩
  · have H := Lib.hid (show decide (n < lo) = false from by simpa using h)
    go_enter Tryd.func46, Tryd.ntmps46
    go_wp2
    go_ret
    exact ⟨ret_bool (by rw [H.out]; rfl), rfl⟩


theorem fc_HasPrefix (s p : List UInt8) (hs : s.length ≤ 140737488351232) (hp : p.length ≤ 140737488351232) (w : World) :
    Calls Tryd.prog 61 #[S s, S p] w fun e w' => e = .returned (.bool (Lib.hasPrefix s p)) ∧ w = w' := by
  have H := Lib.hid (Lib.hasPrefix_of_take s p)
  by_cases h : p.length ≤ s.length
  · have Hd := Lib.hid (show decide (p.length ≤ s.length) = true from by simpa using h)
    go_enter Tryd.func61, Tryd.ntmps61
    go_wp2
    go_ret
    exact ⟨ret_bool (by rw [← H.out, Hd.out]; rfl), rfl⟩
  · have Hd := Lib.hid (show decide (p.length ≤ s.length) = false from by simpa using h)
    go_enter Tryd.func61, Tryd.ntmps61
    go_wp2
    go_ret
    exact ⟨ret_bool (by rw [← H.out, Hd.out]; rfl), rfl⟩

theorem fc_HasSuffix (s p : List UInt8) (hs : s.length ≤ 140737488351232) (hp : p.length ≤ 140737488351232) (w : World) :
    Calls Tryd.prog 99 #[S s, S p] w fun e w' => e = .returned (.bool (Lib.hasSuffix s p)) ∧ w = w' := by
  have H := Lib.hid (Lib.hasSuffix_of_drop s p)
  by_cases h : p.length ≤ s.length
  · have Hd := Lib.hid (show decide (p.length ≤ s.length) = true from by simpa using h)
    have hsub : ((s.length : Int) - (p.length : Int)).toNat = s.length - p.length := by omega
    have ht : List.take (s.length - (s.length - p.length)) (List.drop (s.length - p.length) s) = List.drop (s.length - p.length) s := List.take_of_length_le (by simp)
    go_enter Tryd.func99, Tryd.ntmps99
    go_wp2
    go_ret
    refine ⟨ret_bool ?_, rfl⟩
    rw [← H.out, Hd.out]
    first | rfl | simp
  · have Hd := Lib.hid (show decide (p.length ≤ s.length) = false from by simpa using h)
    go_enter Tryd.func99, Tryd.ntmps99
    go_wp2
    go_ret
    exact ⟨ret_bool (by rw [← H.out, Hd.out]; rfl), rfl⟩

theorem fc_pre_one (a c : UInt8) (r : List UInt8) : Lib.hasPrefix (a :: r) [c] = (c == a) := by simp [Lib.hasPrefix, List.isPrefixOf]
theorem fc_suf_one (b c : UInt8) (m : List UInt8) : Lib.hasSuffix (m ++ [b]) [c] = (c == b) := by
  simp [Lib.hasSuffix, List.isSuffixOf, List.isPrefixOf]

set_option maxRecDepth 100000 in
theorem fc_trim_none (s : List UInt8) (h0 : Lib.hasPrefix s [32] = false) (h1 : Lib.hasSuffix s [32] = false) (h2 : Lib.hasPrefix s [9] = false) (h3 : Lib.hasSuffix s [9] = false) : trim s = s := by
  have k : ∀ b : UInt8, (32 == b) = false → (9 == b) = false → isB b = false := fun b e1 e2 => by
    simp [isB] at e1 e2 ⊢
    constructor
    · intro h; exact e1 (UInt8.toNat_inj.1 (by simpa using (show (32 : Nat) = b.toNat by omega)))
    · intro h; exact e2 (UInt8.toNat_inj.1 (by simpa using (show (9 : Nat) = b.toNat by omega)))
  apply trim_done
  · intro b hb
    cases s with
    | nil => cases hb
    | cons a r => cases hb; rw [fc_pre_one] at h0 h2; exact k _ h0 h2
  · intro b hb
    rcases nil_or_snoc s with rfl | ⟨m, b', rfl⟩
    · cases hb
    · simp at hb; subst hb; rw [fc_suf_one] at h1 h3; exact k _ h1 h3

theorem fc_TrimR (n : Nat) : ∀ (s : List UInt8) (w : World), s.length ≤ n → n ≤ 140737488351232 →
    Calls Tryd.prog 68 #[S s] w fun e w' => e = .returned (S (trim s)) ∧ Below w.heap.size w w' := by
  induction n with
  | zero =>
    intro s w hn hN
    obtain rfl : s = [] := List.eq_nil_of_length_eq_zero (by omega)
    have f0 : Lib.hasPrefix [] [32] = false := rfl
    have f1 : Lib.hasSuffix [] [32] = false := rfl
    have f2 : Lib.hasPrefix [] [9] = false := rfl
    have f3 : Lib.hasSuffix [] [9] = false := rfl
    go_enter Tryd.func68, Tryd.ntmps68
    go_wp2_with fail
    refine wp_loop_rounds 3 ?_
    rw [rounds_succ]
    go_wp2_with (first
      | (go_at_call 61; refine (fc_HasPrefix _ _ (by first | omega | (simp; done) | (simp; omega)) (by simp) _).mono ?_; rintro e w' ⟨rfl, rfl⟩)
      | (go_at_call 99; refine (fc_HasSuffix _ _ (by first | omega | (simp; done) | (simp; omega)) (by simp) _).mono ?_; rintro e w' ⟨rfl, rfl⟩))
    rw [rounds_succ]
    go_wp2_with (first
      | (go_at_call 61; refine (fc_HasPrefix _ _ (by first | omega | (simp; done) | (simp; omega)) (by simp) _).mono ?_; rintro e w' ⟨rfl, rfl⟩)
      | (go_at_call 99; refine (fc_HasSuffix _ _ (by first | omega | (simp; done) | (simp; omega)) (by simp) _).mono ?_; rintro e w' ⟨rfl, rfl⟩))
    rw [rounds_succ]
    go_wp2_with (first
      | (go_at_call 61; refine (fc_HasPrefix _ _ (by first | omega | (simp; done) | (simp; omega)) (by simp) _).mono ?_; rintro e w' ⟨rfl, rfl⟩)
      | (go_at_call 99; refine (fc_HasSuffix _ _ (by first | omega | (simp; done) | (simp; omega)) (by simp) _).mono ?_; rintro e w' ⟨rfl, rfl⟩))
    go_ret
    exact ⟨rfl, by go_grown⟩
  | succ n ih =>
    intro s w hn hN
    have IH := Lib.hid ih
    clear ih
    cases h0 : Lib.hasPrefix s [32]
    · cases h1 : Lib.hasSuffix s [32]
      · cases h2 : Lib.hasPrefix s [9]
        · cases h3 : Lib.hasSuffix s [9]
          · have Hf := Lib.hid (fc_trim_none s h0 h1 h2 h3)
            go_enter Tryd.func68, Tryd.ntmps68
            go_wp2_with fail
            refine wp_loop_rounds 3 ?_
            rw [rounds_succ]
            go_wp2_with (first
              | (go_at_call 61; refine (fc_HasPrefix _ _ (by first | omega | (simp; done) | (simp; omega)) (by simp) _).mono ?_; rintro e w' ⟨rfl, rfl⟩)
              | (go_at_call 99; refine (fc_HasSuffix _ _ (by first | omega | (simp; done) | (simp; omega)) (by simp) _).mono ?_; rintro e w' ⟨rfl, rfl⟩))
            rw [rounds_succ]
            go_wp2_with (first
              | (go_at_call 61; refine (fc_HasPrefix _ _ (by first | omega | (simp; done) | (simp; omega)) (by simp) _).mono ?_; rintro e w' ⟨rfl, rfl⟩)
              | (go_at_call 99; refine (fc_HasSuffix _ _ (by first | omega | (simp; done) | (simp; omega)) (by simp) _).mono ?_; rintro e w' ⟨rfl, rfl⟩))
            rw [rounds_succ]
            go_wp2_with (first
              | (go_at_call 61; refine (fc_HasPrefix _ _ (by first | omega | (simp; done) | (simp; omega)) (by simp) _).mono ?_; rintro e w' ⟨rfl, rfl⟩)
              | (go_at_call 99; refine (fc_HasSuffix _ _ (by first | omega | (simp; done) | (simp; omega)) (by simp) _).mono ?_; rintro e w' ⟨rfl, rfl⟩))
            go_ret
            exact ⟨ret_S Hf.out.symm, by go_grown⟩
          · rcases nil_or_snoc s with rfl | ⟨m, b, rfl⟩
            · cases h3
            · have hm : m.length + 1 ≤ n + 1 := by simpa using hn
              have Hb := Lib.hid (trim_snoc m b (by rw [fc_suf_one] at h3; simp at h3; subst h3; rfl))
              go_enter Tryd.func68, Tryd.ntmps68
              go_wp2_with fail
              refine wp_loop_rounds 2 ?_
              rw [rounds_succ]
              go_wp2_with (first
                | (go_at_call 61; refine (fc_HasPrefix _ _ (by first | omega | (simp; done) | (simp; omega)) (by simp) _).mono ?_; rintro e w' ⟨rfl, rfl⟩)
                | (go_at_call 99; refine (fc_HasSuffix _ _ (by first | omega | (simp; done) | (simp; omega)) (by simp) _).mono ?_; rintro e w' ⟨rfl, rfl⟩)
                | (go_at_call 68; refine (IH.out m _ (by first | omega | (simp at hn; omega)) (by omega)).mono ?_; rintro e w' ⟨rfl, hb⟩))
              rw [rounds_succ]
              go_wp2_with (first
                | (go_at_call 61; refine (fc_HasPrefix _ _ (by first | omega | (simp; done) | (simp; omega)) (by simp) _).mono ?_; rintro e w' ⟨rfl, rfl⟩)
                | (go_at_call 99; refine (fc_HasSuffix _ _ (by first | omega | (simp; done) | (simp; omega)) (by simp) _).mono ?_; rintro e w' ⟨rfl, rfl⟩)
                | (go_at_call 68; refine (IH.out m _ (by first | omega | (simp at hn; omega)) (by omega)).mono ?_; rintro e w' ⟨rfl, hb⟩))
              go_ret
              exact ⟨ret_S Hb.out.symm, ((Below.refl _ _).alloc (Nat.le_refl _) _).trans (hb.mono (by simp))⟩
        · rcases s with _ | ⟨a, r⟩
          · cases h2
          · have Hb := Lib.hid (trim_cons a r (by rw [fc_pre_one] at h2; simp at h2; subst h2; rfl))
            go_enter Tryd.func68, Tryd.ntmps68
            go_wp2_with fail
            refine wp_loop_rounds 2 ?_
            rw [rounds_succ]
            go_wp2_with (first
              | (go_at_call 61; refine (fc_HasPrefix _ _ (by first | omega | (simp; done) | (simp; omega)) (by simp) _).mono ?_; rintro e w' ⟨rfl, rfl⟩)
              | (go_at_call 99; refine (fc_HasSuffix _ _ (by first | omega | (simp; done) | (simp; omega)) (by simp) _).mono ?_; rintro e w' ⟨rfl, rfl⟩)
              | (go_at_call 68; refine (IH.out r _ (by first | omega | (simp at hn; omega)) (by omega)).mono ?_; rintro e w' ⟨rfl, hb⟩))
            rw [rounds_succ]
            go_wp2_with (first
              | (go_at_call 61; refine (fc_HasPrefix _ _ (by first | omega | (simp; done) | (simp; omega)) (by simp) _).mono ?_; rintro e w' ⟨rfl, rfl⟩)
              | (go_at_call 99; refine (fc_HasSuffix _ _ (by first | omega | (simp; done) | (simp; omega)) (by simp) _).mono ?_; rintro e w' ⟨rfl, rfl⟩)
              | (go_at_call 68; refine (IH.out r _ (by first | omega | (simp at hn; omega)) (by omega)).mono ?_; rintro e w' ⟨rfl, hb⟩))
            go_ret
            exact ⟨ret_S Hb.out.symm, ((Below.refl _ _).alloc (Nat.le_refl _) _).trans (hb.mono (by simp))⟩
      · rcases nil_or_snoc s with rfl | ⟨m, b, rfl⟩
        · cases h1
        · have hm : m.length + 1 ≤ n + 1 := by simpa using hn
          have Hb := Lib.hid (trim_snoc m b (by rw [fc_suf_one] at h1; simp at h1; subst h1; rfl))
          go_enter Tryd.func68, Tryd.ntmps68
          go_wp2_with fail
          refine wp_loop_rounds 1 ?_
          rw [rounds_succ]
          go_wp2_with (first
            | (go_at_call 61; refine (fc_HasPrefix _ _ (by first | omega | (simp; done) | (simp; omega)) (by simp) _).mono ?_; rintro e w' ⟨rfl, rfl⟩)
            | (go_at_call 99; refine (fc_HasSuffix _ _ (by first | omega | (simp; done) | (simp; omega)) (by simp) _).mono ?_; rintro e w' ⟨rfl, rfl⟩)
            | (go_at_call 68; refine (IH.out m _ (by first | omega | (simp at hn; omega)) (by omega)).mono ?_; rintro e w' ⟨rfl, hb⟩))
          go_ret
          exact ⟨ret_S Hb.out.symm, ((Below.refl _ _).alloc (Nat.le_refl _) _).trans (hb.mono (by simp))⟩
    · rcases s with _ | ⟨a, r⟩
      · cases h0
      · have Hb := Lib.hid (trim_cons a r (by rw [fc_pre_one] at h0; simp at h0; subst h0; rfl))
        go_enter Tryd.func68, Tryd.ntmps68
        go_wp2_with fail
        refine wp_loop_rounds 1 ?_
        rw [rounds_succ]
        go_wp2_with (first
          | (go_at_call 61; refine (fc_HasPrefix _ _ (by first | omega | (simp; done) | (simp; omega)) (by simp) _).mono ?_; rintro e w' ⟨rfl, rfl⟩)
          | (go_at_call 99; refine (fc_HasSuffix _ _ (by first | omega | (simp; done) | (simp; omega)) (by simp) _).mono ?_; rintro e w' ⟨rfl, rfl⟩)
          | (go_at_call 68; refine (IH.out r _ (by first | omega | (simp at hn; omega)) (by omega)).mono ?_; rintro e w' ⟨rfl, hb⟩))
        go_ret
        exact ⟨ret_S Hb.out.symm, ((Below.refl _ _).alloc (Nat.le_refl _) _).trans (hb.mono (by simp))⟩

end Go.Proofs.YtmhhjmncbclihaaDoor
