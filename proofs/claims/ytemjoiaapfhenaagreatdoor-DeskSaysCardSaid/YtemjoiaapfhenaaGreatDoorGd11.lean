/- WFc0, WTag, WTagF, WTagP, WTrimP, WFc1 -/
import Derived.Test.YtemjoiaapfhenaaGreatDoorChecked
import Derived.Test.YtemjoiaapfhenaaGreatDoorGd00
import Derived.Lib.Bytealg
import Derived.Laws.Externs
import Derived.Test.YtemjoiaapfhenaaGreatDoorGd02
import Derived.Test.YtemjoiaapfhenaaGreatDoorGd03
import Derived.Test.YtemjoiaapfhenaaGreatDoorGd01
import Derived.Deep.RegionWith
import Derived.Test.YtemjoiaapfhenaaGreatDoorShelf
import Derived.Lib.AsciiSet

/- WFc0 -/
section
namespace Go.Proofs.YtemjoiaapfhenaaGreatDoor
open Go.RowKit Go.Larder
set_option linter.unusedVariables false
set_option linter.unusedSimpArgs false

set_option maxHeartbeats 1000000 in
set_option maxRecDepth 100000 in
theorem w_liteIndexByte (l : List UInt8) (c : UInt8) (w : World) :
    Calls Tryz.prog 154 #[S l, .int .u8 c.toNat] w fun e w' => e = .returned (.int .i64 (Lib.indexByte l c)) ∧ w = w' := by
  go_enter Tryz.func154, Tryz.ntmps154
  go_wp2
  rw [run_callFunc_extern Tryz.func190 (by kernel_rfl) (by kernel_rfl) (by kernel_rfl) (e := Extern.BytealgIndexByte.indexByte) (by kernel_rfl), Lib.run_indexByteString]
  simp only [Result.andThen]
  rw [Oper.upon_value]
  go_wp2
  go_ret
  exact ⟨by simp, rfl⟩

theorem w_IndexByte (l : List UInt8) (c : UInt8) (w : World) :
    Calls Tryz.prog 99 #[S l, .int .u8 c.toNat] w fun e w' => e = .returned (.int .i64 (Lib.indexByte l c)) ∧ w = w' := by
  go_enter Tryz.func99, Tryz.ntmps99
  go_wp2_with (go_at_call 154; refine (w_liteIndexByte l c _).mono ?_; rintro e w' ⟨rfl, rfl⟩)
  go_ret
  exact ⟨rfl, rfl⟩

set_option maxHeartbeats 1000000 in
theorem fc_liteIndex1 (l : List UInt8) (c : UInt8) (w : World) :
    Calls Tryz.prog 135 #[S l, S [c]] w fun e w' => e = .returned (.int .i64 (Lib.indexByte l c)) ∧ w = w' := by
  cases hcl : ([c] == l)
  · go_enter Tryz.func135, Tryz.ntmps135
    go_wp2_with (go_at_call 154; refine (w_liteIndexByte l c _).mono ?_; rintro e w' ⟨rfl, rfl⟩)
    go_ret
    exact ⟨rfl, rfl⟩
  · have hl : l = [c] := by have := hcl; simp at this; exact this.symm
    subst hl
    have h0 : Lib.indexByte [c] c = 0 := by simp [Lib.indexByte]
    go_enter Tryz.func135, Tryz.ntmps135
    go_wp2_with fail
    go_ret
    exact ⟨by rw [h0]; rfl, rfl⟩
theorem fc_Index1 (l : List UInt8) (c : UInt8) (w : World) :
    Calls Tryz.prog 71 #[S l, S [c]] w fun e w' => e = .returned (.int .i64 (Lib.indexByte l c)) ∧ w = w' := by
  go_enter Tryz.func71, Tryz.ntmps71
  go_wp2_with (go_at_call 135; refine (fc_liteIndex1 l c _).mono ?_; rintro e w' ⟨rfl, rfl⟩)
  go_ret
  exact ⟨rfl, rfl⟩
theorem fc_Contains1 (l : List UInt8) (c : UInt8) (w : World) :
    Calls Tryz.prog 85 #[S l, S [c]] w fun e w' => e = .returned (.bool (inTab l c)) ∧ w = w' := by
  go_enter Tryz.func85, Tryz.ntmps85
  go_wp2_with (go_at_call 71; refine (fc_Index1 l c _).mono ?_; rintro e w' ⟨rfl, rfl⟩)
  go_ret
  exact ⟨rfl, rfl⟩

theorem fc_isTokenByte (c : UInt8) (w : World) :
    Calls Tryz.prog 204 #[.int .u8 c.toNat] w fun e w' => e = .returned (.bool (tokB c)) ∧ w = w' := by
  have hj : (0 : Int) ≤ Lib.indexByte signsL c ↔ inTab signsL c = true := by simp [inTab]
  go_enter Tryz.func204, Tryz.ntmps204
  go_wp2_with (go_at_call 99; refine (w_IndexByte signsL c _).mono ?_; rintro e w' ⟨rfl, rfl⟩)
  all_goals
    go_ret
    rw [tokB_eq]
    refine ⟨?_, rfl⟩
    simp_all [inTab]
    try omega

set_option maxHeartbeats 1000000 in
theorem fc_IsToken (l : List UInt8) (hl : l.length ≤ 140737488351232) (w : World) :
    Calls Tryz.prog 169 #[S l] w fun e w' => e = .returned (.bool (isTok l)) ∧ w = w' := by
  go_enter Tryz.func169, Tryz.ntmps169
  go_wp2_with fail
  go_loop [6] (fun i' => ∃ k : Nat, i' = .int .i64 k ∧ k ≤ l.length ∧ (l.take k).all tokB = true) (fun i' => l.length - (intOf i').toNat)
  case atStart => exact ⟨0, rfl, by omega, rfl⟩
  case round =>
    obtain ⟨k, rfl, hk, hall⟩ := hrel
    by_cases hlt : k < l.length
    · obtain ⟨x, hx, _⟩ := drop_step hlt
      have Hall := Lib.hid hall; clear hall
      have Hx := Lib.hid hx
      have hg : ∀ h, l[k]'h = x := fun h => by rw [List.getElem?_eq_getElem h] at hx; exact Option.some.inj hx
      cases ht : tokB x
      · go_wp2_with (go_at_call 204; refine (fc_isTokenByte x _).mono ?_; rintro e w' ⟨rfl, rfl⟩)
        go_ret
        exact ⟨by simp [isTok, all_bad Hx.out ht], rfl⟩
      · go_wp2_with (go_at_call 204; refine (fc_isTokenByte x _).mono ?_; rintro e w' ⟨rfl, rfl⟩)
        go_round
        case rel => exact ⟨k + 1, by go_num, by omega, all_step Hx.out Hall.out ht⟩
        case measure => simp [intOf]; omega
    · obtain rfl : k = l.length := by omega
      rw [List.take_length] at hall
      go_wp2_with fail
      go_ret
      refine ⟨?_, rfl⟩
      cases l <;> simp_all [isTok]

set_option maxHeartbeats 1000000 in
theorem fc_allOf (l t : List UInt8) (hl : l.length ≤ 140737488351232) (w : World) :
    Calls Tryz.prog 79 #[S l, S t] w fun e w' => e = .returned (.bool (l.all (inTab t))) ∧ w = w' := by
  go_enter Tryz.func79, Tryz.ntmps79
  go_wp2_with fail
  go_loop [8] (fun i' => ∃ k : Nat, i' = .int .i64 k ∧ k ≤ l.length ∧ (l.take k).all (inTab t) = true) (fun i' => l.length - (intOf i').toNat)
  case atStart => exact ⟨0, rfl, by omega, rfl⟩
  case round =>
    obtain ⟨k, rfl, hk, hall⟩ := hrel
    by_cases hlt : k < l.length
    · obtain ⟨x, hx, _⟩ := drop_step hlt
      have Hall := Lib.hid hall; clear hall
      have Hx := Lib.hid hx
      have hg : ∀ h, l[k]'h = x := fun h => by rw [List.getElem?_eq_getElem h] at hx; exact Option.some.inj hx
      have hd : List.take 1 (List.drop k l) = [x] := by rw [List.drop_eq_getElem_cons hlt, hg]; rfl
      have hd2 : List.take (k + 1 - k) (List.drop k l) = [x] := by rw [show k + 1 - k = 1 from by omega]; exact hd
      cases ht : inTab t x
      · go_wp2_with (go_at_call 85; refine (fc_Contains1 t x _).mono ?_; rintro e w' ⟨rfl, rfl⟩)
        go_ret
        have hq := all_bad Hx.out ht
        rw [hq]
        exact ⟨rfl, rfl⟩
      · go_wp2_with (go_at_call 85; refine (fc_Contains1 t x _).mono ?_; rintro e w' ⟨rfl, rfl⟩)
        go_round
        case rel => exact ⟨k + 1, by go_num, by omega, all_step Hx.out Hall.out ht⟩
        case measure => simp [intOf]; omega
    · obtain rfl : k = l.length := by omega
      rw [List.take_length] at hall
      go_wp2_with fail
      go_ret
      exact ⟨rfl, rfl⟩

theorem fc_TokenR (l : List UInt8) (hl : l.length ≤ 140737488351232) (w : World) :
    Calls Tryz.prog 89 #[S l] w fun e w' => e = .returned (.bool (isTok l)) ∧ w = w' := by
  go_enter Tryz.func89, Tryz.ntmps89
  cases l with
  | nil =>
    go_wp2_with fail
    go_ret
    exact ⟨rfl, rfl⟩
  | cons a l =>
    go_wp2_with (go_at_call 79; refine (fc_allOf (a :: l) tokTab hl _).mono ?_; rintro e w' ⟨rfl, rfl⟩)
    go_ret
    exact ⟨rfl, rfl⟩
theorem fc_outside (n lo hi : Int) (w : World) :
    Calls Tryz.prog 76 #[.int .i64 n, .int .i64 lo, .int .i64 hi] w fun e w' => e = .returned (.bool (decide (n < lo) || decide (hi < n))) ∧ w = w' := by
  by_cases h : n < lo
  · have H := Lib.hid (show decide (n < lo) = true from by simpa using h)
    go_enter Tryz.func76, Tryz.ntmps76
    go_wp2
    go_ret
    exact ⟨ret_bool (by rw [H.out]; rfl), rfl⟩
  · have H := Lib.hid (show decide (n < lo) = false from by simpa using h)
    go_enter Tryz.func76, Tryz.ntmps76
    go_wp2
    go_ret
    exact ⟨ret_bool (by rw [H.out]; rfl), rfl⟩


theorem fc_plainR (l : List UInt8) (hl : l.length ≤ 140737488351232) (w : World) :
    Calls Tryz.prog 72 #[S l] w fun e w' => e = .returned (.bool (l.all isPl)) ∧ w = w' := by
  go_enter Tryz.func72, Tryz.ntmps72
  go_wp2_with fail
  go_loop [6] (fun v => ∃ k : Nat, v = .int .i64 k ∧ k ≤ l.length ∧ (l.drop k).all isPl = l.all isPl) (fun v => l.length - (intOf v).toNat)
  case atStart => exact ⟨0, rfl, by omega, rfl⟩
  case round =>
    obtain ⟨k, rfl, hk, hd⟩ := hrel
    have Hd := Lib.hid hd; clear hd
    by_cases hlt : k < l.length
    · obtain ⟨x, hx, hs⟩ := drop_step hlt
      have hg : ∀ h, l[k]'h = x := fun h => by rw [List.getElem?_eq_getElem h] at hx; exact Option.some.inj hx
      have Hs := Lib.hid hs; clear hs hx
      cases h9 : ((x.toNat : Int) == 9)
      · by_cases h1 : (x.toNat : Int) < 32
        · have Hp := Lib.hid (show isPl x = false from by simp at h9; simp [isPl, h9]; omega)
          go_wp2_with (go_at_call 76; refine (fc_outside _ _ _ _).mono ?_; rintro e w' ⟨rfl, rfl⟩)
          go_ret
          exact ⟨ret_bool (by rw [← Hd.out, Hs.out]; simp [Hp.out]), rfl⟩
        · by_cases h2 : 126 < (x.toNat : Int)
          · have Hp := Lib.hid (show isPl x = false from by simp at h9; simp [isPl, h9]; omega)
            go_wp2_with (go_at_call 76; refine (fc_outside _ _ _ _).mono ?_; rintro e w' ⟨rfl, rfl⟩)
            go_ret
            exact ⟨ret_bool (by rw [← Hd.out, Hs.out]; simp [Hp.out]), rfl⟩
          · have Hp := Lib.hid (show isPl x = true from by simp [isPl]; omega)
            go_wp2_with (go_at_call 76; refine (fc_outside _ _ _ _).mono ?_; rintro e w' ⟨rfl, rfl⟩)
            go_round
            case rel => exact ⟨k + 1, by go_num, by omega, by rw [← Hd.out, Hs.out]; simp [Hp.out]⟩
            case measure => simp [intOf]; omega
      · have Hp := Lib.hid (show isPl x = true from by simp [isPl, h9])
        go_wp2_with fail
        go_round
        case rel => exact ⟨k + 1, by go_num, by omega, by rw [← Hd.out, Hs.out]; simp [Hp.out]⟩
        case measure => simp [intOf]; omega
    · go_wp2_with fail
      go_ret
      exact ⟨ret_bool (by rw [← Hd.out, drop_end hlt]; rfl), rfl⟩

theorem fc_HasPrefix (s p : List UInt8) (hs : s.length ≤ 140737488351232) (hp : p.length ≤ 140737488351232) (w : World) :
    Calls Tryz.prog 83 #[S s, S p] w fun e w' => e = .returned (.bool (Lib.hasPrefix s p)) ∧ w = w' := by
  have H := Lib.hid (Lib.hasPrefix_of_take s p)
  by_cases h : p.length ≤ s.length
  · have Hd := Lib.hid (show decide (p.length ≤ s.length) = true from by simpa using h)
    go_enter Tryz.func83, Tryz.ntmps83
    go_wp2
    go_ret
    exact ⟨ret_bool (by rw [← H.out, Hd.out]; rfl), rfl⟩
  · have Hd := Lib.hid (show decide (p.length ≤ s.length) = false from by simpa using h)
    go_enter Tryz.func83, Tryz.ntmps83
    go_wp2
    go_ret
    exact ⟨ret_bool (by rw [← H.out, Hd.out]; rfl), rfl⟩

theorem fc_HasSuffix (s p : List UInt8) (hs : s.length ≤ 140737488351232) (hp : p.length ≤ 140737488351232) (w : World) :
    Calls Tryz.prog 155 #[S s, S p] w fun e w' => e = .returned (.bool (Lib.hasSuffix s p)) ∧ w = w' := by
  have H := Lib.hid (Lib.hasSuffix_of_drop s p)
  by_cases h : p.length ≤ s.length
  · have Hd := Lib.hid (show decide (p.length ≤ s.length) = true from by simpa using h)
    have hsub : ((s.length : Int) - (p.length : Int)).toNat = s.length - p.length := by omega
    have ht : List.take (s.length - (s.length - p.length)) (List.drop (s.length - p.length) s) = List.drop (s.length - p.length) s := List.take_of_length_le (by simp)
    go_enter Tryz.func155, Tryz.ntmps155
    go_wp2
    go_ret
    refine ⟨ret_bool ?_, rfl⟩
    rw [← H.out, Hd.out]
    first | rfl | simp
  · have Hd := Lib.hid (show decide (p.length ≤ s.length) = false from by simpa using h)
    go_enter Tryz.func155, Tryz.ntmps155
    go_wp2
    go_ret
    exact ⟨ret_bool (by rw [← H.out, Hd.out]; rfl), rfl⟩

theorem fc_pre_one (a c : UInt8) (r : List UInt8) : Lib.hasPrefix (a :: r) [c] = (c == a) := by simp [Lib.hasPrefix, List.isPrefixOf]
theorem fc_suf_one (b c : UInt8) (m : List UInt8) : Lib.hasSuffix (m ++ [b]) [c] = (c == b) := by
  simp [Lib.hasSuffix, List.isSuffixOf, List.isPrefixOf]

set_option maxRecDepth 100000 in
theorem fc_trim_none (s : List UInt8) (h0 : Lib.hasPrefix s [32] = false) (h1 : Lib.hasSuffix s [32] = false) (h2 : Lib.hasPrefix s [9] = false) (h3 : Lib.hasSuffix s [9] = false) : trim s = s := by
  have k : ∀ b : UInt8, (32 == b) = false → (9 == b) = false → isB b = false := fun b e1 e2 => by
    simp [isB] at e1 e2 ⊢
    constructor
    · intro h; exact e1 (UInt8.toNat_inj.1 (by simpa using (show (32 : Nat) = b.toNat by omega)))
    · intro h; exact e2 (UInt8.toNat_inj.1 (by simpa using (show (9 : Nat) = b.toNat by omega)))
  apply trim_done
  · intro b hb
    cases s with
    | nil => cases hb
    | cons a r => cases hb; rw [fc_pre_one] at h0 h2; exact k _ h0 h2
  · intro b hb
    rcases nil_or_snoc s with rfl | ⟨m, b', rfl⟩
    · cases hb
    · simp at hb; subst hb; rw [fc_suf_one] at h1 h3; exact k _ h1 h3

theorem fc_TrimR (n : Nat) : ∀ (s : List UInt8) (w : World), s.length ≤ n → n ≤ 140737488351232 →
    Calls Tryz.prog 101 #[S s] w fun e w' => e = .returned (S (trim s)) ∧ Below w.heap.size w w' := by
  induction n with
  | zero =>
    intro s w hn hN
    obtain rfl : s = [] := List.eq_nil_of_length_eq_zero (by omega)
    have f0 : Lib.hasPrefix [] [32] = false := rfl
    have f1 : Lib.hasSuffix [] [32] = false := rfl
    have f2 : Lib.hasPrefix [] [9] = false := rfl
    have f3 : Lib.hasSuffix [] [9] = false := rfl
    go_enter Tryz.func101, Tryz.ntmps101
    go_wp2_with fail
    refine wp_loop_rounds 3 ?_
    rw [rounds_succ]
    go_wp2_with (first
      | (go_at_call 83; refine (fc_HasPrefix _ _ (by first | omega | (simp; done) | (simp; omega)) (by simp) _).mono ?_; rintro e w' ⟨rfl, rfl⟩)
      | (go_at_call 155; refine (fc_HasSuffix _ _ (by first | omega | (simp; done) | (simp; omega)) (by simp) _).mono ?_; rintro e w' ⟨rfl, rfl⟩))
    rw [rounds_succ]
    go_wp2_with (first
      | (go_at_call 83; refine (fc_HasPrefix _ _ (by first | omega | (simp; done) | (simp; omega)) (by simp) _).mono ?_; rintro e w' ⟨rfl, rfl⟩)
      | (go_at_call 155; refine (fc_HasSuffix _ _ (by first | omega | (simp; done) | (simp; omega)) (by simp) _).mono ?_; rintro e w' ⟨rfl, rfl⟩))
    rw [rounds_succ]
    go_wp2_with (first
      | (go_at_call 83; refine (fc_HasPrefix _ _ (by first | omega | (simp; done) | (simp; omega)) (by simp) _).mono ?_; rintro e w' ⟨rfl, rfl⟩)
      | (go_at_call 155; refine (fc_HasSuffix _ _ (by first | omega | (simp; done) | (simp; omega)) (by simp) _).mono ?_; rintro e w' ⟨rfl, rfl⟩))
    go_ret
    exact ⟨rfl, by go_grown⟩
  | succ n ih =>
    intro s w hn hN
    have IH := Lib.hid ih
    clear ih
    cases h0 : Lib.hasPrefix s [32]
    · cases h1 : Lib.hasSuffix s [32]
      · cases h2 : Lib.hasPrefix s [9]
        · cases h3 : Lib.hasSuffix s [9]
          · have Hf := Lib.hid (fc_trim_none s h0 h1 h2 h3)
            go_enter Tryz.func101, Tryz.ntmps101
            go_wp2_with fail
            refine wp_loop_rounds 3 ?_
            rw [rounds_succ]
            go_wp2_with (first
              | (go_at_call 83; refine (fc_HasPrefix _ _ (by first | omega | (simp; done) | (simp; omega)) (by simp) _).mono ?_; rintro e w' ⟨rfl, rfl⟩)
              | (go_at_call 155; refine (fc_HasSuffix _ _ (by first | omega | (simp; done) | (simp; omega)) (by simp) _).mono ?_; rintro e w' ⟨rfl, rfl⟩))
            rw [rounds_succ]
            go_wp2_with (first
              | (go_at_call 83; refine (fc_HasPrefix _ _ (by first | omega | (simp; done) | (simp; omega)) (by simp) _).mono ?_; rintro e w' ⟨rfl, rfl⟩)
              | (go_at_call 155; refine (fc_HasSuffix _ _ (by first | omega | (simp; done) | (simp; omega)) (by simp) _).mono ?_; rintro e w' ⟨rfl, rfl⟩))
            rw [rounds_succ]
            go_wp2_with (first
              | (go_at_call 83; refine (fc_HasPrefix _ _ (by first | omega | (simp; done) | (simp; omega)) (by simp) _).mono ?_; rintro e w' ⟨rfl, rfl⟩)
              | (go_at_call 155; refine (fc_HasSuffix _ _ (by first | omega | (simp; done) | (simp; omega)) (by simp) _).mono ?_; rintro e w' ⟨rfl, rfl⟩))
            go_ret
            exact ⟨ret_S Hf.out.symm, by go_grown⟩
          · rcases nil_or_snoc s with rfl | ⟨m, b, rfl⟩
            · cases h3
            · have hm : m.length + 1 ≤ n + 1 := by simpa using hn
              have Hb := Lib.hid (trim_snoc m b (by rw [fc_suf_one] at h3; simp at h3; subst h3; rfl))
              go_enter Tryz.func101, Tryz.ntmps101
              go_wp2_with fail
              refine wp_loop_rounds 2 ?_
              rw [rounds_succ]
              go_wp2_with (first
                | (go_at_call 83; refine (fc_HasPrefix _ _ (by first | omega | (simp; done) | (simp; omega)) (by simp) _).mono ?_; rintro e w' ⟨rfl, rfl⟩)
                | (go_at_call 155; refine (fc_HasSuffix _ _ (by first | omega | (simp; done) | (simp; omega)) (by simp) _).mono ?_; rintro e w' ⟨rfl, rfl⟩)
                | (go_at_call 101; refine (IH.out m _ (by first | omega | (simp at hn; omega)) (by omega)).mono ?_; rintro e w' ⟨rfl, hb⟩))
              rw [rounds_succ]
              go_wp2_with (first
                | (go_at_call 83; refine (fc_HasPrefix _ _ (by first | omega | (simp; done) | (simp; omega)) (by simp) _).mono ?_; rintro e w' ⟨rfl, rfl⟩)
                | (go_at_call 155; refine (fc_HasSuffix _ _ (by first | omega | (simp; done) | (simp; omega)) (by simp) _).mono ?_; rintro e w' ⟨rfl, rfl⟩)
                | (go_at_call 101; refine (IH.out m _ (by first | omega | (simp at hn; omega)) (by omega)).mono ?_; rintro e w' ⟨rfl, hb⟩))
              go_ret
              exact ⟨ret_S Hb.out.symm, ((Below.refl _ _).alloc (Nat.le_refl _) _).trans (hb.mono (by simp))⟩
        · rcases s with _ | ⟨a, r⟩
          · cases h2
          · have Hb := Lib.hid (trim_cons a r (by rw [fc_pre_one] at h2; simp at h2; subst h2; rfl))
            go_enter Tryz.func101, Tryz.ntmps101
            go_wp2_with fail
            refine wp_loop_rounds 2 ?_
            rw [rounds_succ]
            go_wp2_with (first
              | (go_at_call 83; refine (fc_HasPrefix _ _ (by first | omega | (simp; done) | (simp; omega)) (by simp) _).mono ?_; rintro e w' ⟨rfl, rfl⟩)
              | (go_at_call 155; refine (fc_HasSuffix _ _ (by first | omega | (simp; done) | (simp; omega)) (by simp) _).mono ?_; rintro e w' ⟨rfl, rfl⟩)
              | (go_at_call 101; refine (IH.out r _ (by first | omega | (simp at hn; omega)) (by omega)).mono ?_; rintro e w' ⟨rfl, hb⟩))
            rw [rounds_succ]
            go_wp2_with (first
              | (go_at_call 83; refine (fc_HasPrefix _ _ (by first | omega | (simp; done) | (simp; omega)) (by simp) _).mono ?_; rintro e w' ⟨rfl, rfl⟩)
              | (go_at_call 155; refine (fc_HasSuffix _ _ (by first | omega | (simp; done) | (simp; omega)) (by simp) _).mono ?_; rintro e w' ⟨rfl, rfl⟩)
              | (go_at_call 101; refine (IH.out r _ (by first | omega | (simp at hn; omega)) (by omega)).mono ?_; rintro e w' ⟨rfl, hb⟩))
            go_ret
            exact ⟨ret_S Hb.out.symm, ((Below.refl _ _).alloc (Nat.le_refl _) _).trans (hb.mono (by simp))⟩
      · rcases nil_or_snoc s with rfl | ⟨m, b, rfl⟩
        · cases h1
        · have hm : m.length + 1 ≤ n + 1 := by simpa using hn
          have Hb := Lib.hid (trim_snoc m b (by rw [fc_suf_one] at h1; simp at h1; subst h1; rfl))
          go_enter Tryz.func101, Tryz.ntmps101
          go_wp2_with fail
          refine wp_loop_rounds 1 ?_
          rw [rounds_succ]
          go_wp2_with (first
            | (go_at_call 83; refine (fc_HasPrefix _ _ (by first | omega | (simp; done) | (simp; omega)) (by simp) _).mono ?_; rintro e w' ⟨rfl, rfl⟩)
            | (go_at_call 155; refine (fc_HasSuffix _ _ (by first | omega | (simp; done) | (simp; omega)) (by simp) _).mono ?_; rintro e w' ⟨rfl, rfl⟩)
            | (go_at_call 101; refine (IH.out m _ (by first | omega | (simp at hn; omega)) (by omega)).mono ?_; rintro e w' ⟨rfl, hb⟩))
          go_ret
          exact ⟨ret_S Hb.out.symm, ((Below.refl _ _).alloc (Nat.le_refl _) _).trans (hb.mono (by simp))⟩
    · rcases s with _ | ⟨a, r⟩
      · cases h0
      · have Hb := Lib.hid (trim_cons a r (by rw [fc_pre_one] at h0; simp at h0; subst h0; rfl))
        go_enter Tryz.func101, Tryz.ntmps101
        go_wp2_with fail
        refine wp_loop_rounds 1 ?_
        rw [rounds_succ]
        go_wp2_with (first
          | (go_at_call 83; refine (fc_HasPrefix _ _ (by first | omega | (simp; done) | (simp; omega)) (by simp) _).mono ?_; rintro e w' ⟨rfl, rfl⟩)
          | (go_at_call 155; refine (fc_HasSuffix _ _ (by first | omega | (simp; done) | (simp; omega)) (by simp) _).mono ?_; rintro e w' ⟨rfl, rfl⟩)
          | (go_at_call 101; refine (IH.out r _ (by first | omega | (simp at hn; omega)) (by omega)).mono ?_; rintro e w' ⟨rfl, hb⟩))
        go_ret
        exact ⟨ret_S Hb.out.symm, ((Below.refl _ _).alloc (Nat.le_refl _) _).trans (hb.mono (by simp))⟩

end Go.Proofs.YtemjoiaapfhenaaGreatDoor
end

/- WTag -/
section
namespace Go.Proofs.YtemjoiaapfhenaaGreatDoor
open Go.RowKit Go.Larder
set_option linter.unusedVariables false
set_option linter.unusedSimpArgs false

theorem w_isTagByte (c : UInt8) (w : World) :
    Calls Tryz.prog 122 #[.int .u8 c.toNat] w fun e w' => e = .returned (.bool (isTagB c)) ∧ w = w' := by
  cases h3 : ((c.toNat : Int) == 33) <;> by_cases h1 : 35 ≤ (c.toNat : Int) <;> by_cases h2 : (c.toNat : Int) ≤ 126 <;>
    (go_enter Tryz.func122, Tryz.ntmps122
     go_wp2
     go_ret
     refine ⟨ret_bool ?_, rfl⟩
     simp at h1 h2 h3
     simp [isTagB, h1, h2, h3]
     try omega)

def NOK (e : Ending) (b : Bool) : Prop := ∃ a n, e = .returned (.tuple #[S a, .int .i64 n]) ∧ (n == 0) = b

set_option maxHeartbeats 1000000 in
theorem w_TagPrint (wk : Bool) (t : List UInt8) (w : World) :
    Calls Tryz.prog 59 #[.agg #[.bool wk, S t]] w (StPost w (tagE wk t)) := by
  have hB1 := (Below.refl w.heap.size w).alloc (Nat.le_refl _) (.cells #[.bool wk, S t] 57)
  by_cases hb : 100 < t.length
  · rw [show tagE wk t = .error 2 from by unfold tagE; rw [if_pos hb]]
    go_enter Tryz.func59, Tryz.ntmps59
    go_wp2_with fail
    go_ret2
    exact ⟨rfl, hB1⟩
  · cases hp : t.all isTagB
    · rw [show tagE wk t = .error 3 from by unfold tagE; rw [if_neg hb, if_neg (by rw [hp]; simp)]]
      have Hp := Lib.hid hp
      clear hp
      go_enter Tryz.func59, Tryz.ntmps59
      go_wp2_with fail
      go_loop [13] (fun i' => ∃ k : Nat, i' = .int .i64 k ∧ k ≤ t.length ∧ Hid ((t.drop k).all isTagB = t.all isTagB)) (fun i' => t.length - (intOf i').toNat)
      case atStart => exact ⟨0, rfl, by omega, Lib.hid rfl⟩
      case round =>
        obtain ⟨k, rfl, hk, Hd⟩ := hrel
        by_cases hlt : k < t.length
        · obtain ⟨x, hx, hs⟩ := drop_step hlt
          have hg : ∀ h, t[k]'h = x := fun h => by rw [List.getElem?_eq_getElem h] at hx; exact Option.some.inj hx
          have Hs := Lib.hid hs; clear hs hx
          cases hpx : isTagB x
          · go_wp2_with (go_at_call 122; refine (w_isTagByte x _).mono ?_; rintro e w' ⟨rfl, rfl⟩)
            go_ret2
            exact ⟨rfl, hB1⟩
          · have Hx := Lib.hid hpx
            go_wp2_with (go_at_call 122; refine (w_isTagByte x _).mono ?_; rintro e w' ⟨rfl, rfl⟩)
            go_round
            case rel => exact ⟨k + 1, by go_num, by omega, Lib.hid (by rw [← Hd.out, Hs.out, List.all_cons, Hx.out]; rfl)⟩
            case measure => simp [intOf]; omega
        · have := Hd.out
          rw [drop_end hlt, Hp.out] at this
          cases this
    · rw [show tagE wk t = .ok (tagL wk t) from by unfold tagE; rw [if_neg hb, if_pos hp]]
      have hall := List.all_eq_true.1 hp
      clear hp
      cases wk
      all_goals
        go_enter Tryz.func59, Tryz.ntmps59
        go_wp2_with fail
        go_loop [13] (fun i' => ∃ k : Nat, i' = .int .i64 k ∧ k ≤ t.length) (fun i' => t.length - (intOf i').toNat)
        case atStart => exact ⟨0, rfl, by omega⟩
        case round =>
          obtain ⟨k, rfl, hk⟩ := hrel
          by_cases hlt : k < t.length
          · obtain ⟨x, hx, hs⟩ := drop_step hlt
            have hpx := hall x (List.mem_of_getElem? hx)
            have hg : ∀ h, t[k]'h = x := fun h => by rw [List.getElem?_eq_getElem h] at hx; exact Option.some.inj hx
            clear hs hx
            go_wp2_with (go_at_call 122; refine (w_isTagByte x _).mono ?_; rintro e w' ⟨rfl, rfl⟩)
            go_round
            case rel => exact ⟨k + 1, by go_num, by omega⟩
            case measure => simp [intOf]; omega
          · go_wp2_with fail
            go_ret2
            exact ⟨by simp [tagL, wkL], hB1⟩

theorem w_TagPrint_any (wk : Bool) (t : List UInt8) (w : World) :
    Calls Tryz.prog 59 #[.agg #[.bool wk, S t]] w (fun e w' => NOK e (tagOK t) ∧ Below w.heap.size w w') := by
  refine (w_TagPrint wk t w).mono ?_
  rintro e w' ⟨h1, h2⟩
  refine ⟨?_, h2⟩
  cases h : tagOK t
  · obtain ⟨n, hn, hn0⟩ := tagE_bad (wk := wk) h
    rw [hn] at h1
    exact ⟨[], n, h1, hn0⟩
  · rw [tagE_ok h] at h1
    exact ⟨_, 0, h1, rfl⟩

set_option maxHeartbeats 1000000 in
theorem w_TagPrintR (wk : Bool) (t : List UInt8) (w : World) :
    Calls Tryz.prog 91 #[.agg #[.bool wk, S t]] w (StPost w (tagE wk t)) := by
  have hB1 := (Below.refl w.heap.size w).alloc (Nat.le_refl _) (.cells #[.bool wk, S t] 57)
  by_cases hb : 100 < t.length
  · rw [show tagE wk t = .error 2 from by unfold tagE; rw [if_pos hb]]
    go_enter Tryz.func91, Tryz.ntmps91
    go_wp2_with fail
    go_ret2
    exact ⟨rfl, hB1⟩
  · have hall := all_plain_but tagB_eq t
    have hpl := fun w => c1_plainR t (by omega) w
    cases hp : t.all isPl
    · rw [hp, Bool.false_and] at hall
      rw [show tagE wk t = .error 3 from by unfold tagE; rw [if_neg hb, if_neg (by rw [hall]; simp)]]
      simp only [hp] at hpl
      clear hp hall
      go_enter Tryz.func91, Tryz.ntmps91
      go_wp2_with (go_at_call 72; refine (hpl _).mono ?_; rintro e w' ⟨rfl, rfl⟩)
      go_ret2
      exact ⟨rfl, hB1⟩
    · have hca := fun w => w_ContainsAny t [32, 9, 34] (by omega) (by decide) (plain_asc hp) (by decide) w
      rw [hp, Bool.true_and] at hall
      simp only [hp] at hpl
      cases hc : Lib.containsAny t [32, 9, 34]
      · rw [hc] at hall
        rw [show tagE wk t = .ok (tagL wk t) from by unfold tagE; rw [if_neg hb, if_pos (by rw [hall]; rfl)]]
        simp only [hc] at hca
        clear hp hall hc
        have bx := BoxAt.new w [.bool wk, S t] 57
        cases wk
        all_goals
          go_enter Tryz.func91, Tryz.ntmps91
          go_wp2_with (first
            | (go_at_call 72; refine (hpl _).mono ?_; rintro e w' ⟨rfl, rfl⟩)
            | (go_at_call 84; refine (hca _).mono ?_; rintro e w1 ⟨rfl, hb1⟩
               have bx1 := bx.keep hb1
               have q0 := bx1.cell (j := 0) rfl
               have q1 := bx1.cell (j := 1) rfl))
          go_ret2
          exact ⟨by simp [tagL, wkL], hB1.trans (hb1.mono (by simp))⟩
      · rw [hc] at hall
        rw [show tagE wk t = .error 3 from by unfold tagE; rw [if_neg hb, if_neg (by rw [hall]; simp)]]
        simp only [hc] at hca
        clear hp hall hc
        go_enter Tryz.func91, Tryz.ntmps91
        go_wp2_with (first
          | (go_at_call 72; refine (hpl _).mono ?_; rintro e w' ⟨rfl, rfl⟩)
          | (go_at_call 84; refine (hca _).mono ?_; rintro e w1 ⟨rfl, hb1⟩))
        go_ret2
        exact ⟨rfl, hB1.trans (hb1.mono (by simp))⟩
end Go.Proofs.YtemjoiaapfhenaaGreatDoor
end

/- WTagF -/
section
namespace Go.Proofs.YtemjoiaapfhenaaGreatDoor
open Go.RowKit Go.Larder
set_option linter.unusedVariables false
set_option linter.unusedSimpArgs false

/-- What etag.first hands back. -/
def FstPost (w : World) (r : Option (Bool × List UInt8 × List UInt8)) (e : Ending) (w' : World) : Prop := (match r with
  | none => e = .returned (.tuple #[.agg #[.bool false, S []], S [], .bool false])
  | some (wk, t, r) => e = .returned (.tuple #[.agg #[.bool wk, S t], S r, .bool true])) ∧ Below w.heap.size w w'

set_option maxHeartbeats 2000000 in
theorem w_tfirst (s : List UInt8) (hs : s.length ≤ 140737488351232) (w : World) :
    Calls Tryz.prog 121 #[S s] w (FstPost w (firstE s)) := by
  have hc1 := fun w => w_CutPre s wkL w
  have hc2 := fun w => w_CutPre (Lib.trimPrefix s wkL) [34] w
  have hl1 := trimPre_len s wkL
  have hl2 := trimPre_len (Lib.trimPrefix s wkL) [34]
  have hc3 := fun w => c1_Cut (Lib.trimPrefix (Lib.trimPrefix s wkL) [34]) 34 (by omega) w
  have hF : firstE s = if (Lib.hasPrefix (Lib.trimPrefix s wkL) [34] && (cut1 34 (Lib.trimPrefix (Lib.trimPrefix s wkL) [34])).2.2 && tagOK (cut1 34 (Lib.trimPrefix (Lib.trimPrefix s wkL) [34])).1) = true then some (Lib.hasPrefix s wkL, (cut1 34 (Lib.trimPrefix (Lib.trimPrefix s wkL) [34])).1, (cut1 34 (Lib.trimPrefix (Lib.trimPrefix s wkL) [34])).2.1) else none := rfl
  generalize cut1 34 (Lib.trimPrefix (Lib.trimPrefix s wkL) [34]) = ct at hc3 hF
  obtain ⟨t, r, en⟩ := ct
  simp only at hc3 hF
  generalize Lib.hasPrefix (Lib.trimPrefix s wkL) [34] = is at hc2 hF
  generalize Lib.trimPrefix (Lib.trimPrefix s wkL) [34] = s2 at hc2 hc3 hl2
  generalize Lib.hasPrefix s wkL = wk at hc1 hF
  generalize Lib.trimPrefix s wkL = s1 at hc1 hc2 hl1 hl2
  obtain ⟨R, hR⟩ : ∃ R, firstE s = R := ⟨_, rfl⟩
  rw [hR]
  rw [hR] at hF
  have HR := Lib.hid hF
  clear hF hR hl1 hl2
  have hP := fun w => w_TagPrint_any wk t w
  have b0 := (BoxAt.new w [.bool false, S []] 57).alloc (.cells #[.bool false, S []] 57)
  have c0 := BoxAt.new (w.alloc (.cells #[.bool false, S []] 57)) [.bool false, S []] 57
  rw [show (w.alloc (.cells #[.bool false, S []] 57)).heap.size = w.heap.size + 1 from by simp] at c0
  have hB0 : Below w.heap.size w ((w.alloc (.cells #[.bool false, S []] 57)).alloc (.cells #[.bool false, S []] 57)) := ((Below.refl w.heap.size w).alloc (Nat.le_refl _) _).alloc (by simp) _
  go_enter Tryz.func121, Tryz.ntmps121
  go_wp2_with fail
  refine (hc1 _).mono ?_
  rintro e w1 ⟨rfl, hb1⟩
  have hB1 := hB0.trans (hb1.mono (by simp; omega))
  have b1 := b0.keep hb1
  have c1 := c0.keep hb1
  have q1 := c1.cell (j := 0) rfl
  have f1 := c1.free 0
  clear hb1 b0 c0 hB0 hc1
  go_wp2_with fail
  have b2 := b1.setOther ⟨w.heap.size + 1, 0, none⟩ (by simp) (.bool wk)
  have c2 := c1.set 0 (.bool wk)
  have hB2 := hB1.setCell (p := ⟨w.heap.size + 1, 0, none⟩) (by simp) (.bool wk)
  clear b1 c1 q1 f1 hB1
  generalize w1.setCell ⟨w.heap.size + 1, 0, none⟩ (.bool wk) = w2 at b2 c2 hB2 ⊢
  refine (hc2 _).mono ?_
  rintro e w3 ⟨rfl, hb3⟩
  have hB3 := hB2.trans (hb3.mono hB2.size)
  have b3 := b2.keep hb3
  have c3 := c2.keep hb3
  clear b2 c2 hB2 hb3 hc2
  go_wp2_with fail
  refine (hc3 _).mono ?_
  rintro e w4 ⟨rfl, hb4⟩
  have hB4 := hB3.trans (hb4.mono hB3.size)
  have b4 := b3.keep hb4
  have c4 := c3.keep hb4
  have q4 := c4.cell (j := 0) rfl
  have q41 := c4.cell (j := 1) rfl
  have f4 := c4.free 1
  clear b3 c3 hB3 hb4 hc3
  go_wp2_with fail
  have b5 := b4.setOther ⟨w.heap.size + 1, 1, none⟩ (by simp) (S t)
  have c5 := c4.set 1 (S t)
  have hB5 := hB4.setCell (p := ⟨w.heap.size + 1, 1, none⟩) (by simp) (S t)
  clear b4 c4 q4 q41 f4 hB4
  generalize w4.setCell ⟨w.heap.size + 1, 1, none⟩ (S t) = w5 at b5 c5 hB5 ⊢
  refine (hP _).mono ?_
  rintro e w6 ⟨⟨a, n, rfl, hn⟩, hb6⟩
  have hB6 := hB5.trans (hb6.mono hB5.size)
  have b6 := b5.keep hb6
  have c6 := c5.keep hb6
  have q6 := c6.cell (j := 0) rfl
  have q61 := c6.cell (j := 1) rfl
  have p6 := b6.cell (j := 0) rfl
  have p61 := b6.cell (j := 1) rfl
  have g6 := b6.free 0
  have g61 := b6.free 1
  clear b5 c5 hB5 hb6 hP hs
  obtain ⟨ok, hok⟩ : ∃ ok, tagOK t = ok := ⟨_, rfl⟩
  rw [hok] at hn
  have Hok := Lib.hid hok
  clear hok
  have fin : ∀ x y, BoxAt ((w6.setCell ⟨w.heap.size, 0, none⟩ x).setCell ⟨w.heap.size, 1, none⟩ y) w.heap.size 57 [x, y] := fun x y => (b6.set 0 x).set 1 y
  have finB : ∀ x y, Below w.heap.size w ((w6.setCell ⟨w.heap.size, 0, none⟩ x).setCell ⟨w.heap.size, 1, none⟩ y) := fun x y => (hB6.setCell (p := ⟨w.heap.size, 0, none⟩) (by simp) x).setCell (p := ⟨w.heap.size, 1, none⟩) (by simp) y
  have endN : R = none → ∀ w', Below w.heap.size w w' → FstPost w R (.returned (.tuple #[.agg #[.bool false, S []], S [], .bool false])) w' := fun h w' hb => by rw [h]; exact ⟨rfl, hb⟩
  have endS : R = some (wk, t, r) → ∀ w', Below w.heap.size w w' → FstPost w R (.returned (.tuple #[.agg #[.bool wk, S t], S r, .bool true])) w' := fun h w' hb => by rw [h]; exact ⟨rfl, hb⟩
  have EndN := Lib.hid endN
  have EndS := Lib.hid endS
  clear endN endS
  cases is
  · have Hn := Lib.hid hn
    clear hn
    go_wp2_with fail
    refine bodyPost_ret (results_box3 (by rfl) _ _ w.heap.size [.bool false, S []] _ (by rfl) (fin _ _).all Tryz.underlying57 (by rfl) (by kernel_rfl)) rfl ?_
    exact EndN.out (by rw [HR.out]; simp) _ (finB _ _)
  · cases en
    · have Hn := Lib.hid hn
      clear hn
      go_wp2_with fail
      refine bodyPost_ret (results_box3 (by rfl) _ _ w.heap.size [.bool false, S []] _ (by rfl) (fin _ _).all Tryz.underlying57 (by rfl) (by kernel_rfl)) rfl ?_
      exact EndN.out (by rw [HR.out]; simp) _ (finB _ _)
    · cases ok
      · go_wp2_with fail
        refine bodyPost_ret (results_box3 (by rfl) _ _ w.heap.size [.bool false, S []] _ (by rfl) (fin _ _).all Tryz.underlying57 (by rfl) (by kernel_rfl)) rfl ?_
        exact EndN.out (by rw [HR.out, Hok.out]; simp) _ (finB _ _)
      · go_wp2_with fail
        refine bodyPost_ret (results_box3 (by rfl) _ _ w.heap.size [.bool wk, S t] _ (by rfl) (fin _ _).all Tryz.underlying57 (by rfl) (by kernel_rfl)) rfl ?_
        exact EndS.out (by rw [HR.out, Hok.out]; simp) _ (finB _ _)
end Go.Proofs.YtemjoiaapfhenaaGreatDoor
end

/- WTagP -/
section
namespace Go.Proofs.YtemjoiaapfhenaaGreatDoor
open Go.RowKit Go.Larder
set_option linter.unusedVariables false
set_option linter.unusedSimpArgs false

def TPost (w : World) (r : Option (Bool × List UInt8)) (e : Ending) (w' : World) : Prop := (match r with
  | none => e = .returned (.tuple #[.agg #[.bool false, S []], .int .i64 3])
  | some (wk, t) => e = .returned (.tuple #[.agg #[.bool wk, S t], .int .i64 0])) ∧ Below w.heap.size w w'

set_option maxHeartbeats 2000000 in
theorem w_tparse (s : List UInt8) (hs : s.length ≤ 140737488351232) (w : World) :
    Calls Tryz.prog 58 #[S s] w (TPost w (parseT s)) := by
  have hf := fun w => w_tfirst s hs w
  have b0 := BoxAt.new w [.bool false, S []] 57
  have hB0 : Below w.heap.size w (w.alloc (.cells #[.bool false, S []] 57)) := (Below.refl w.heap.size w).alloc (Nat.le_refl _) _
  unfold parseT
  cases hfe : firstE s with
  | none =>
    simp only [hfe] at hf
    clear hfe
    go_enter Tryz.func58, Tryz.ntmps58
    go_wp2_with fail
    refine (hf _).mono ?_
    rintro e w1 ⟨rfl, hb1⟩
    have hB1 := hB0.trans (hb1.mono (by simp))
    have b1 := b0.keep hb1
    have hsz : w.heap.size ≤ w1.heap.size := hB1.size
    have p6 := (b0.keep hb1).cell (j := 0) rfl
    have p61 := (b0.keep hb1).cell (j := 1) rfl
    have g6 := (b0.keep hb1).free 0
    have g61 := (b0.keep hb1).free 1
    have hlt := (b0.keep hb1).lt
    have fin : ∀ x y, BoxAt (((w1.setCell ⟨w.heap.size, 0, none⟩ x).setCell ⟨w.heap.size, 1, none⟩ y).alloc (.cells #[.bool false, S []] 57)) w.heap.size 57 [x, y] := fun x y => ((b1.set 0 x).set 1 y).alloc _
    have finB : ∀ x y, Below w.heap.size w (((w1.setCell ⟨w.heap.size, 0, none⟩ x).setCell ⟨w.heap.size, 1, none⟩ y).alloc (.cells #[.bool false, S []] 57)) := fun x y => ((hB1.setCell (p := ⟨w.heap.size, 0, none⟩) (by simp) x).setCell (p := ⟨w.heap.size, 1, none⟩) (by simp) y).alloc (by simpa using hsz) _
    go_wp2_with fail
    refine bodyPost_ret (results_box2 (by rfl) _ _ w.heap.size [.bool false, S []] _ (by rfl) (fin _ _).all Tryz.underlying57 (by rfl) (by kernel_rfl)) rfl ?_
    exact ⟨rfl, finB _ _⟩
  | some x =>
    obtain ⟨wk, t, r⟩ := x
    simp only [hfe] at hf
    clear hfe
    cases r with
    | nil =>
      go_enter Tryz.func58, Tryz.ntmps58
      go_wp2_with fail
      refine (hf _).mono ?_
      rintro e w1 ⟨rfl, hb1⟩
      have hB1 := hB0.trans (hb1.mono (by simp))
      have b1 := b0.keep hb1
      have hsz : w.heap.size ≤ w1.heap.size := hB1.size
      have p6 := (b0.keep hb1).cell (j := 0) rfl
      have p61 := (b0.keep hb1).cell (j := 1) rfl
      have g6 := (b0.keep hb1).free 0
      have g61 := (b0.keep hb1).free 1
      have hlt := (b0.keep hb1).lt
      have fin : ∀ x y, BoxAt (((w1.setCell ⟨w.heap.size, 0, none⟩ x).setCell ⟨w.heap.size, 1, none⟩ y).alloc (.cells #[.bool wk, S t] 57)) w.heap.size 57 [x, y] := fun x y => ((b1.set 0 x).set 1 y).alloc _
      have finB : ∀ x y, Below w.heap.size w (((w1.setCell ⟨w.heap.size, 0, none⟩ x).setCell ⟨w.heap.size, 1, none⟩ y).alloc (.cells #[.bool wk, S t] 57)) := fun x y => ((hB1.setCell (p := ⟨w.heap.size, 0, none⟩) (by simp) x).setCell (p := ⟨w.heap.size, 1, none⟩) (by simp) y).alloc (by simpa using hsz) _
      go_wp2_with fail
      refine bodyPost_ret (results_box2 (by rfl) _ _ w.heap.size [.bool wk, S t] _ (by rfl) (fin _ _).all Tryz.underlying57 (by rfl) (by kernel_rfl)) rfl ?_
      exact ⟨rfl, finB _ _⟩
    | cons a r =>
      go_enter Tryz.func58, Tryz.ntmps58
      go_wp2_with fail
      refine (hf _).mono ?_
      rintro e w1 ⟨rfl, hb1⟩
      have hB1 := hB0.trans (hb1.mono (by simp))
      have b1 := b0.keep hb1
      have hsz : w.heap.size ≤ w1.heap.size := hB1.size
      have p6 := (b0.keep hb1).cell (j := 0) rfl
      have p61 := (b0.keep hb1).cell (j := 1) rfl
      have g6 := (b0.keep hb1).free 0
      have g61 := (b0.keep hb1).free 1
      have hlt := (b0.keep hb1).lt
      have fin : ∀ x y, BoxAt (((w1.setCell ⟨w.heap.size, 0, none⟩ x).setCell ⟨w.heap.size, 1, none⟩ y).alloc (.cells #[.bool wk, S t] 57)) w.heap.size 57 [x, y] := fun x y => ((b1.set 0 x).set 1 y).alloc _
      have finB : ∀ x y, Below w.heap.size w (((w1.setCell ⟨w.heap.size, 0, none⟩ x).setCell ⟨w.heap.size, 1, none⟩ y).alloc (.cells #[.bool wk, S t] 57)) := fun x y => ((hB1.setCell (p := ⟨w.heap.size, 0, none⟩) (by simp) x).setCell (p := ⟨w.heap.size, 1, none⟩) (by simp) y).alloc (by simpa using hsz) _
      go_wp2_with fail
      refine bodyPost_ret (results_box2 (by rfl) _ _ w.heap.size [.bool false, S []] _ (by rfl) (fin _ _).all Tryz.underlying57 (by rfl) (by kernel_rfl)) rfl ?_
      exact ⟨rfl, finB _ _⟩
set_option maxHeartbeats 4000000 in
theorem w_tparseR (s : List UInt8) (hs : s.length ≤ 140737488351232) (w : World) :
    Calls Tryz.prog 29 #[S s] w (TPost w (parseTR s)) := by
  have h1 := fun w => w_HasPre s wkL w
  have h2 := fun w => w_TrimPre s wkL w
  have hl := trimPre_len s wkL
  unfold parseTR
  generalize Lib.hasPrefix s wkL = wk at h1 ⊢
  generalize Lib.trimPrefix s wkL = rest at h2 hl ⊢
  have hsub : ((rest.length : Int) - 1).toNat = rest.length - 1 := by omega
  obtain ⟨X, hX⟩ : ∃ X, midL rest = X := ⟨_, rfl⟩
  rw [hX]
  have hms : 1 < rest.length → List.take (rest.length - 1 - 1) rest.tail = X := fun h => by rw [← hX]; unfold midL; rw [if_pos h]; simp
  have hmn : ¬ 1 < rest.length → X = [] := fun h => by rw [← hX]; unfold midL; rw [if_neg h]
  clear hX
  have b0 : BoxAt ((w.alloc (.cells #[.bool false, S []] 57)).alloc (.cells #[.bool wk, S X] 57)) w.heap.size 57 [.bool false, S []] := (BoxAt.new w [.bool false, S []] 57).alloc _
  have c0 : BoxAt ((w.alloc (.cells #[.bool false, S []] 57)).alloc (.cells #[.bool wk, S X] 57)) (w.heap.size + 1) 57 [.bool wk, S X] := by
    have := BoxAt.new (w.alloc (.cells #[.bool false, S []] 57)) [.bool wk, S X] 57
    rwa [show (w.alloc (.cells #[.bool false, S []] 57)).heap.size = w.heap.size + 1 from by simp] at this
  have hB0 : Below w.heap.size w ((w.alloc (.cells #[.bool false, S []] 57)).alloc (.cells #[.bool wk, S X] 57)) := ((Below.refl w.heap.size w).alloc (Nat.le_refl _) _).alloc (by simp) _
  have hP := fun w => w_TagPrintR wk X w
  cases hk : tagOK X
  · rw [Bool.false_and, if_neg (by simp)]
    obtain ⟨n, hn, hn0⟩ := tagE_bad (wk := wk) hk
    rw [hn] at hP
    clear hk hn
    by_cases hlen : 1 < rest.length
    · have hXe := hms hlen
      clear hms hmn
      go_enter Tryz.func29, Tryz.ntmps29
      go_wp2_with (first
        | (go_at_call 83; refine (h1 _).mono ?_; rintro e w' ⟨rfl, rfl⟩)
        | (go_at_call 90; refine (h2 _).mono ?_; rintro e w' ⟨rfl, rfl⟩))
      refine (hP _).mono ?_
      rintro e w1 ⟨rfl, hb1⟩
      have hB1 := hB0.trans (hb1.mono (by simp; omega))
      have b1 := b0.keep hb1
      have c1 := c0.keep hb1
      have q6 := c1.cell (j := 0) rfl
      have q61 := c1.cell (j := 1) rfl
      have p6 := b1.cell (j := 0) rfl
      have p61 := b1.cell (j := 1) rfl
      have g6 := b1.free 0
      have g61 := b1.free 1
      have fin : ∀ x y, BoxAt ((w1.setCell ⟨w.heap.size, 0, none⟩ x).setCell ⟨w.heap.size, 1, none⟩ y) w.heap.size 57 [x, y] := fun x y => (b1.set 0 x).set 1 y
      have finB : ∀ x y, Below w.heap.size w ((w1.setCell ⟨w.heap.size, 0, none⟩ x).setCell ⟨w.heap.size, 1, none⟩ y) := fun x y => (hB1.setCell (p := ⟨w.heap.size, 0, none⟩) (by simp) x).setCell (p := ⟨w.heap.size, 1, none⟩) (by simp) y
      clear b0 c0 hB0 hb1 hB1 b1 c1
      go_wp2_with fail
      refine bodyPost_ret (results_box2 (by rfl) _ _ w.heap.size [.bool false, S []] _ (by rfl) (fin _ _).all Tryz.underlying57 (by rfl) (by kernel_rfl)) rfl ?_
      exact ⟨rfl, finB _ _⟩
    · have hX0 := hmn hlen
      subst hX0
      clear hms hmn
      go_enter Tryz.func29, Tryz.ntmps29
      go_wp2_with (first
        | (go_at_call 83; refine (h1 _).mono ?_; rintro e w' ⟨rfl, rfl⟩)
        | (go_at_call 90; refine (h2 _).mono ?_; rintro e w' ⟨rfl, rfl⟩))
      refine (hP _).mono ?_
      rintro e w1 ⟨rfl, hb1⟩
      have hB1 := hB0.trans (hb1.mono (by simp; omega))
      have b1 := b0.keep hb1
      have c1 := c0.keep hb1
      have q6 := c1.cell (j := 0) rfl
      have q61 := c1.cell (j := 1) rfl
      have p6 := b1.cell (j := 0) rfl
      have p61 := b1.cell (j := 1) rfl
      have g6 := b1.free 0
      have g61 := b1.free 1
      have fin : ∀ x y, BoxAt ((w1.setCell ⟨w.heap.size, 0, none⟩ x).setCell ⟨w.heap.size, 1, none⟩ y) w.heap.size 57 [x, y] := fun x y => (b1.set 0 x).set 1 y
      have finB : ∀ x y, Below w.heap.size w ((w1.setCell ⟨w.heap.size, 0, none⟩ x).setCell ⟨w.heap.size, 1, none⟩ y) := fun x y => (hB1.setCell (p := ⟨w.heap.size, 0, none⟩) (by simp) x).setCell (p := ⟨w.heap.size, 1, none⟩) (by simp) y
      clear b0 c0 hB0 hb1 hB1 b1 c1
      go_wp2_with fail
      refine bodyPost_ret (results_box2 (by rfl) _ _ w.heap.size [.bool false, S []] _ (by rfl) (fin _ _).all Tryz.underlying57 (by rfl) (by kernel_rfl)) rfl ?_
      exact ⟨rfl, finB _ _⟩
  · rw [tagE_ok hk] at hP
    rw [Bool.true_and]
    cases hq : (tagL wk X == s)
    · rw [if_neg (by simp)]
      clear hk
      by_cases hlen : 1 < rest.length
      · have hXe := hms hlen
        clear hms hmn
        generalize tagL wk X = u at hP hq
        go_enter Tryz.func29, Tryz.ntmps29
        go_wp2_with (first
          | (go_at_call 83; refine (h1 _).mono ?_; rintro e w' ⟨rfl, rfl⟩)
          | (go_at_call 90; refine (h2 _).mono ?_; rintro e w' ⟨rfl, rfl⟩))
        refine (hP _).mono ?_
        rintro e w1 ⟨rfl, hb1⟩
        have hB1 := hB0.trans (hb1.mono (by simp; omega))
        have b1 := b0.keep hb1
        have c1 := c0.keep hb1
        have q6 := c1.cell (j := 0) rfl
        have q61 := c1.cell (j := 1) rfl
        have p6 := b1.cell (j := 0) rfl
        have p61 := b1.cell (j := 1) rfl
        have g6 := b1.free 0
        have g61 := b1.free 1
        have fin : ∀ x y, BoxAt ((w1.setCell ⟨w.heap.size, 0, none⟩ x).setCell ⟨w.heap.size, 1, none⟩ y) w.heap.size 57 [x, y] := fun x y => (b1.set 0 x).set 1 y
        have finB : ∀ x y, Below w.heap.size w ((w1.setCell ⟨w.heap.size, 0, none⟩ x).setCell ⟨w.heap.size, 1, none⟩ y) := fun x y => (hB1.setCell (p := ⟨w.heap.size, 0, none⟩) (by simp) x).setCell (p := ⟨w.heap.size, 1, none⟩) (by simp) y
        clear b0 c0 hB0 hb1 hB1 b1 c1
        go_wp2_with fail
        refine bodyPost_ret (results_box2 (by rfl) _ _ w.heap.size [.bool false, S []] _ (by rfl) (fin _ _).all Tryz.underlying57 (by rfl) (by kernel_rfl)) rfl ?_
        exact ⟨rfl, finB _ _⟩
      · have hX0 := hmn hlen
        subst hX0
        clear hms hmn
        generalize tagL wk [] = u at hP hq
        go_enter Tryz.func29, Tryz.ntmps29
        go_wp2_with (first
          | (go_at_call 83; refine (h1 _).mono ?_; rintro e w' ⟨rfl, rfl⟩)
          | (go_at_call 90; refine (h2 _).mono ?_; rintro e w' ⟨rfl, rfl⟩))
        refine (hP _).mono ?_
        rintro e w1 ⟨rfl, hb1⟩
        have hB1 := hB0.trans (hb1.mono (by simp; omega))
        have b1 := b0.keep hb1
        have c1 := c0.keep hb1
        have q6 := c1.cell (j := 0) rfl
        have q61 := c1.cell (j := 1) rfl
        have p6 := b1.cell (j := 0) rfl
        have p61 := b1.cell (j := 1) rfl
        have g6 := b1.free 0
        have g61 := b1.free 1
        have fin : ∀ x y, BoxAt ((w1.setCell ⟨w.heap.size, 0, none⟩ x).setCell ⟨w.heap.size, 1, none⟩ y) w.heap.size 57 [x, y] := fun x y => (b1.set 0 x).set 1 y
        have finB : ∀ x y, Below w.heap.size w ((w1.setCell ⟨w.heap.size, 0, none⟩ x).setCell ⟨w.heap.size, 1, none⟩ y) := fun x y => (hB1.setCell (p := ⟨w.heap.size, 0, none⟩) (by simp) x).setCell (p := ⟨w.heap.size, 1, none⟩) (by simp) y
        clear b0 c0 hB0 hb1 hB1 b1 c1
        go_wp2_with fail
        refine bodyPost_ret (results_box2 (by rfl) _ _ w.heap.size [.bool false, S []] _ (by rfl) (fin _ _).all Tryz.underlying57 (by rfl) (by kernel_rfl)) rfl ?_
        exact ⟨rfl, finB _ _⟩
    · rw [if_pos rfl]
      have hq2 : tagL wk X = s := by simpa using hq
      rw [hq2] at hP
      clear hk hq hq2
      by_cases hlen : 1 < rest.length
      · have hXe := hms hlen
        clear hms hmn
        go_enter Tryz.func29, Tryz.ntmps29
        go_wp2_with (first
          | (go_at_call 83; refine (h1 _).mono ?_; rintro e w' ⟨rfl, rfl⟩)
          | (go_at_call 90; refine (h2 _).mono ?_; rintro e w' ⟨rfl, rfl⟩))
        refine (hP _).mono ?_
        rintro e w1 ⟨rfl, hb1⟩
        have hB1 := hB0.trans (hb1.mono (by simp; omega))
        have b1 := b0.keep hb1
        have c1 := c0.keep hb1
        have q6 := c1.cell (j := 0) rfl
        have q61 := c1.cell (j := 1) rfl
        have p6 := b1.cell (j := 0) rfl
        have p61 := b1.cell (j := 1) rfl
        have g6 := b1.free 0
        have g61 := b1.free 1
        have fin : ∀ x y, BoxAt ((w1.setCell ⟨w.heap.size, 0, none⟩ x).setCell ⟨w.heap.size, 1, none⟩ y) w.heap.size 57 [x, y] := fun x y => (b1.set 0 x).set 1 y
        have finB : ∀ x y, Below w.heap.size w ((w1.setCell ⟨w.heap.size, 0, none⟩ x).setCell ⟨w.heap.size, 1, none⟩ y) := fun x y => (hB1.setCell (p := ⟨w.heap.size, 0, none⟩) (by simp) x).setCell (p := ⟨w.heap.size, 1, none⟩) (by simp) y
        clear b0 c0 hB0 hb1 hB1 b1 c1
        go_wp2_with fail
        refine bodyPost_ret (results_box2 (by rfl) _ _ w.heap.size [.bool wk, S X] _ (by rfl) (fin _ _).all Tryz.underlying57 (by rfl) (by kernel_rfl)) rfl ?_
        exact ⟨rfl, finB _ _⟩
      · have hX0 := hmn hlen
        subst hX0
        clear hms hmn
        go_enter Tryz.func29, Tryz.ntmps29
        go_wp2_with (first
          | (go_at_call 83; refine (h1 _).mono ?_; rintro e w' ⟨rfl, rfl⟩)
          | (go_at_call 90; refine (h2 _).mono ?_; rintro e w' ⟨rfl, rfl⟩))
        refine (hP _).mono ?_
        rintro e w1 ⟨rfl, hb1⟩
        have hB1 := hB0.trans (hb1.mono (by simp; omega))
        have b1 := b0.keep hb1
        have c1 := c0.keep hb1
        have q6 := c1.cell (j := 0) rfl
        have q61 := c1.cell (j := 1) rfl
        have p6 := b1.cell (j := 0) rfl
        have p61 := b1.cell (j := 1) rfl
        have g6 := b1.free 0
        have g61 := b1.free 1
        have fin : ∀ x y, BoxAt ((w1.setCell ⟨w.heap.size, 0, none⟩ x).setCell ⟨w.heap.size, 1, none⟩ y) w.heap.size 57 [x, y] := fun x y => (b1.set 0 x).set 1 y
        have finB : ∀ x y, Below w.heap.size w ((w1.setCell ⟨w.heap.size, 0, none⟩ x).setCell ⟨w.heap.size, 1, none⟩ y) := fun x y => (hB1.setCell (p := ⟨w.heap.size, 0, none⟩) (by simp) x).setCell (p := ⟨w.heap.size, 1, none⟩) (by simp) y
        clear b0 c0 hB0 hb1 hB1 b1 c1
        go_wp2_with fail
        refine bodyPost_ret (results_box2 (by rfl) _ _ w.heap.size [.bool wk, S []] _ (by rfl) (fin _ _).all Tryz.underlying57 (by rfl) (by kernel_rfl)) rfl ?_
        exact ⟨rfl, finB _ _⟩

end Go.Proofs.YtemjoiaapfhenaaGreatDoor
end

/- WTrimP -/
section
namespace Go.Proofs.YtemjoiaapfhenaaGreatDoor
open Go.RowKit Go.Larder
set_option linter.unusedVariables false
set_option linter.unusedSimpArgs false

theorem blank_nat : ∀ n : Fin 256, ([32, 9] : List UInt8).contains (UInt8.ofNat n.val) = isB (UInt8.ofNat n.val) := by decide +kernel
theorem blank_eq (c : UInt8) : ([32, 9] : List UInt8).contains c = isB c := by
  have := blank_nat ⟨c.toNat, c.toNat_lt⟩
  simpa using this

/-- The set of blanks lies at block b. -/
def SetAt (w : World) (b : Nat) : Prop := ∀ x : UInt8, w.cell? ⟨b, x.toNat, none⟩ = some (.bool (isB x))

theorem wtr_contains (x : UInt8) (b : Nat) (w : World) (h : SetAt w b) :
    Calls Tryz.prog 183 #[.pointer (some ⟨b, 0, none⟩), .int .u8 x.toNat] w fun e w' => e = .returned (.bool (isB x)) ∧ w = w' :=
  (Tryz.asciiSet_contains b x (isB x) w (h x)).mono fun e w' ⟨he, hw⟩ => ⟨he, hw.symm⟩

theorem w_trimL (l : List UInt8) (hl : l.length ≤ 140737488351232) (b : Nat) (w : World) (hS : SetAt w b) :
    Calls Tryz.prog 144 #[S l, .pointer (some ⟨b, 0, none⟩)] w fun e w' => e = .returned (S (l.dropWhile isB)) ∧ w = w' := by
  have HS := Lib.hid hS
  clear hS
  go_enter Tryz.func144, Tryz.ntmps144
  go_wp2_with fail
  go_loop [0] (fun v => ∃ r : List UInt8, v = S r ∧ r.length ≤ l.length ∧ r.dropWhile isB = l.dropWhile isB) (fun v => lenOf v)
  case atStart => exact ⟨_, rfl, Nat.le_refl _, rfl⟩
  case round =>
    obtain ⟨r, rfl, hr, hd⟩ := hrel
    have Hd := Lib.hid hd; clear hd
    rcases r with _ | ⟨a, r⟩
    · go_wp2_with fail
      go_ret
      exact ⟨ret_S (by rw [← Hd.out]; rfl), rfl⟩
    · simp only [List.length_cons] at hr
      cases hb : isB a
      · go_wp2_with (go_at_call 183; refine (wtr_contains a b _ HS.out).mono ?_; rintro e w' ⟨rfl, rfl⟩)
        go_ret
        exact ⟨ret_S (by rw [← Hd.out, List.dropWhile_cons, hb]; rfl), rfl⟩
      · go_wp2_with (go_at_call 183; refine (wtr_contains a b _ HS.out).mono ?_; rintro e w' ⟨rfl, rfl⟩)
        exact ⟨⟨r, rfl, by omega, by rw [← Hd.out, List.dropWhile_cons, hb]; rfl⟩, by simp [lenOf_S]⟩

theorem w_trimRt (l : List UInt8) (hl : l.length ≤ 140737488351232) (b : Nat) (w : World) (hS : SetAt w b) :
    Calls Tryz.prog 229 #[S l, .pointer (some ⟨b, 0, none⟩)] w fun e w' => e = .returned (S (trimR l)) ∧ w = w' := by
  have HS := Lib.hid hS
  clear hS
  go_enter Tryz.func229, Tryz.ntmps229
  go_wp2_with fail
  go_loop [0] (fun v => ∃ r : List UInt8, v = S r ∧ r.length ≤ l.length ∧ trimR r = trimR l) (fun v => lenOf v)
  case atStart => exact ⟨l, rfl, Nat.le_refl _, rfl⟩
  case round =>
    obtain ⟨r, rfl, hr, hd⟩ := hrel
    have Hd := Lib.hid hd; clear hd
    rcases nil_or_snoc r with rfl | ⟨r, c, rfl⟩
    · go_wp2_with fail
      go_ret
      exact ⟨ret_S (by rw [← Hd.out]; rfl), rfl⟩
    · simp only [List.length_append, List.length_singleton] at hr
      cases hb : isB c
      · go_wp2_with (go_at_call 183; refine (wtr_contains c b _ HS.out).mono ?_; rintro e w' ⟨rfl, rfl⟩)
        go_ret
        exact ⟨ret_S (by rw [← Hd.out, trimR_snoc, hb]; rfl), rfl⟩
      · go_wp2_with (go_at_call 183; refine (wtr_contains c b _ HS.out).mono ?_; rintro e w' ⟨rfl, rfl⟩)
        exact ⟨⟨r, rfl, by omega, by rw [← Hd.out, trimR_snoc, hb]; rfl⟩, by simp [lenOf_S]⟩

theorem dropWhile_len (l : List UInt8) : (l.dropWhile isB).length ≤ l.length := (List.dropWhile_sublist isB).length_le
theorem trimR_len (l : List UInt8) : (trimR l).length ≤ l.length := by
  unfold trimR
  rw [List.length_reverse]
  have := (List.dropWhile_sublist isB (l := l.reverse)).length_le
  rwa [List.length_reverse] at this
theorem drop_all : ∀ (p m : List UInt8), p.all isB = true → (p ++ m).dropWhile isB = m.dropWhile isB
  | [], m, _ => rfl
  | a :: p, m, h => by
    rw [List.all_cons, Bool.and_eq_true] at h
    rw [List.cons_append, List.dropWhile_cons, if_pos h.1]
    exact drop_all p m h.2
theorem drop_nil_all : ∀ {l : List UInt8}, l.dropWhile isB = [] → ∀ x ∈ l, isB x = true
  | [], _, x, hx => by simp at hx
  | a :: l, h, x, hx => by
    rw [List.dropWhile_cons] at h
    by_cases ha : isB a = true
    · rw [if_pos ha] at h
      rcases List.mem_cons.1 hx with rfl | hx
      · exact ha
      · exact drop_nil_all h x hx
    · rw [if_neg ha] at h; cases h
theorem all_drop_nil : ∀ {l : List UInt8}, (∀ x ∈ l, isB x = true) → l.dropWhile isB = []
  | [], _ => rfl
  | a :: l, h => by
    rw [List.dropWhile_cons, if_pos (h a (by simp))]
    exact all_drop_nil fun x hx => h x (by simp [hx])
/-- Which side first makes no difference. -/
theorem trim_swap (l : List UInt8) : (trimR l).dropWhile isB = trim l := by
  unfold trim
  induction l with
  | nil => rfl
  | cons a l ih =>
    rcases nil_or_snoc (trimR (a :: l)) with h | ⟨m, b, h⟩
    · -- all blank
      rw [h]
      have hall : ∀ x ∈ (a :: l).reverse, isB x = true := by
        unfold trimR at h
        have h1 : (a :: l).reverse.dropWhile isB = [] := by simpa using congrArg List.reverse h
        exact drop_nil_all h1
      have hd : (a :: l).dropWhile isB = [] := all_drop_nil fun x hx => hall x (List.mem_reverse.2 hx)
      rw [hd]; rfl
    · by_cases ha : isB a = true
      · rw [List.dropWhile_cons, if_pos ha, ← ih]
        -- a is blank: trimR (a :: l) = a :: trimR l, if l is not all blank
        have h2 : trimR (a :: l) = a :: trimR l ∨ trimR (a :: l) = [] := by
          unfold trimR
          rw [List.reverse_cons, List.dropWhile_append]
          by_cases he : (l.reverse.dropWhile isB).isEmpty = true
          · rw [if_pos he, List.dropWhile_cons, if_pos ha]; exact .inr rfl
          · rw [if_neg he]; exact .inl (by simp)
        rcases h2 with h2 | h2
        · rw [h2, List.dropWhile_cons, if_pos ha]
        · rw [h2] at h; simp at h
      · rw [List.dropWhile_cons, if_neg ha]
        have h2 : ∃ t, trimR (a :: l) = a :: t := by
          unfold trimR
          rw [List.reverse_cons, List.dropWhile_append]
          by_cases he : (l.reverse.dropWhile isB).isEmpty = true
          · rw [if_pos he, List.dropWhile_cons, if_neg ha]; exact ⟨[], rfl⟩
          · rw [if_neg he]; exact ⟨(l.reverse.dropWhile isB).reverse, by simp⟩
        obtain ⟨t, h2⟩ := h2
        rw [h2, List.dropWhile_cons, if_neg ha]

theorem zero_set : ∀ w, (zeroValue 149).run Tryz.prog w = .ok (.agg (Array.replicate 256 (.bool false))) w := fun w => by kernel_rfl
set_option maxHeartbeats 4000000 in
set_option maxRecDepth 100000 in
theorem w_Trim (l : List UInt8) (hl : l.length ≤ 140737488351232) (w : World) :
    Calls Tryz.prog 207 #[S l, S [32, 9]] w fun e w' => e = .returned (S (trim l)) ∧ Below w.heap.size w w' := by
  rcases l with _ | ⟨a, l⟩
  · go_enter Tryz.func207, Tryz.ntmps207
    go_wp2_with fail
    go_ret
    exact ⟨rfl, Below.refl _ _⟩
  · have hM := Tryz.strings_makeASCIISet zero_set ⟨[32, 9].toArray⟩ w (by decide) (by
      intro j b h
      rcases j with _ | _ | j
      · have : b = 32 := by simpa using h.symm
        subst this; decide
      · have : b = 9 := by simpa using h.symm
        subst this; decide
      · simp at h)
    have hdat : (⟨([32, 9] : List UInt8).toArray⟩ : ByteArray).data.toList = [32, 9] := rfl
    rw [hdat] at hM
    have hsz := Lib.setCells_size [32, 9]
    have hi : ((Tryz.prog).info? 149).map (·.size) = some 256 := by kernel_rfl
    have hsc : (storeCells ⟨w.heap.size + 1, 0, none⟩ (Lib.setCells [32, 9]).toList 0).run Tryz.prog ((w.alloc (.cells (Lib.setCells [32, 9]) 149)).alloc (.cells (Array.replicate 256 (.bool false)) 149)) = .ok () ((w.alloc (.cells (Lib.setCells [32, 9]) 149)).alloc (.cells (Lib.setCells [32, 9]) 149)) := by
      have := run_storeCells_new (P := Tryz.prog) (w.alloc (.cells (Lib.setCells [32, 9]) 149)) 149 (Array.replicate 256 (.bool false)) (Lib.setCells [32, 9]) (by rw [Lib.setCells_size]; exact hi) (by rw [Lib.setCells_size, Array.size_replicate])
      have hone : ((Lib.setCells [32, 9]).all fun x => x.oneCell') = true := by kernel_rfl
      have h9 := this hone
      simpa using h9
    have hset : SetAt ((w.alloc (.cells (Lib.setCells [32, 9]) 149)).alloc (.cells (Lib.setCells [32, 9]) 149)) (w.heap.size + 1) := fun x => by
      rw [World.cell?_alloc_at _ _ _ _ (by simp), Lib.setCells_at, blank_eq]
    generalize Lib.setCells [32, 9] = cs at *
    have Hset := Lib.hid hset
    clear hset
    go_enter Tryz.func207, Tryz.ntmps207
    go_wp2_with (go_at_call 143; refine hM.mono ?_; rintro e w' ⟨rfl, hw⟩; rw [hw])
    simp only [show Tryz.zeroCells149 = Array.replicate 256 (Value.bool false) from by kernel_rfl, hsc, Result.andThen]
    rw [Oper.upon_skip]
    go_wp2_with (first
      | (go_at_call 229; refine (w_trimRt (a :: l) hl _ _ Hset.out).mono ?_; rintro e w' ⟨rfl, rfl⟩)
      | (go_at_call 144; refine (w_trimL (trimR (a :: l)) (Nat.le_trans (trimR_len _) hl) _ _ Hset.out).mono ?_; rintro e w' ⟨rfl, rfl⟩))
    go_ret
    exact ⟨ret_S (trim_swap (a :: l)), ((Below.refl _ _).alloc (Nat.le_refl _) _).alloc (by simp) _⟩
end Go.Proofs.YtemjoiaapfhenaaGreatDoor
end

/- WFc1 -/
section
namespace Go.Proofs.YtemjoiaapfhenaaGreatDoor
open Go.RowKit Go.Larder
set_option linter.unusedVariables false
set_option linter.unusedSimpArgs false

/-- A block that was laid ahead of a call is as it was. -/
theorem box_keptC {w w1 : World} {cs : Array Value} {e : TypeId} (hb : Below (w.alloc (.cells cs e)).heap.size (w.alloc (.cells cs e)) w1) :
    w1.heap[w.heap.size]? = some (.cells cs e (0, 0)) := (hb.block _ (by simp)).trans (by show (w.heap.push _)[w.heap.size]? = _; simp)
def checkF (n v : List UInt8) : Int :=
  if isTok n then (if 30 < n.length ∨ 1000 < v.length then 2 else if trim v = v ∧ v.all isPl = true then 0 else 3) else 3
theorem checkF_tok {n v : List UInt8} (h : isTok n = false) : checkF n v = 3 := by unfold checkF; rw [if_neg (by simp [h])]
theorem checkF_big {n v : List UInt8} (h : isTok n = true) (hb : 30 < n.length ∨ 1000 < v.length) : checkF n v = 2 := by unfold checkF; rw [if_pos h, if_pos hb]
theorem checkF_ok {n v : List UInt8} (h : isTok n = true) (hb : ¬ (30 < n.length ∨ 1000 < v.length)) (ht : trim v = v) (hp : v.all isPl = true) : checkF n v = 0 := by unfold checkF; rw [if_pos h, if_neg hb, if_pos ⟨ht, hp⟩]
theorem checkF_bad {n v : List UInt8} (h : isTok n = true) (hb : ¬ (30 < n.length ∨ 1000 < v.length)) (ht : ¬ (trim v = v ∧ v.all isPl = true)) : checkF n v = 3 := by unfold checkF; rw [if_pos h, if_neg hb, if_neg ht]

end Go.Proofs.YtemjoiaapfhenaaGreatDoor
end
