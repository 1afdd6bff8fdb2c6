/- Walk: directives, printed: the reference's. -/
import Derived.Test.YtemjoiaapfhenaaGreatDoorGd12
import Derived.Test.YtemjoiaapfhenaaGreatDoorGd03
import Derived.Test.YtemjoiaapfhenaaGreatDoorGd22
import Derived.Test.YtemjoiaapfhenaaGreatDoorGd02
namespace Go.Proofs.YtemjoiaapfhenaaGreatDoor
open Go.RowKit Go.Larder
set_option linter.unusedVariables false
set_option linter.unusedSimpArgs false


-- an operation that was not wanted leaves undef
attribute [local go_sem] undef
set_option maxHeartbeats 16000000 in
set_option maxRecDepth 100000 in
theorem w_CPrintR (l : List Dr) (hsum : (l.map dW).sum ≤ 1048576) (A : Option Addr) (c : Nat) (w : World) (hr : ReadL encD w w.heap.size A l) (hM : ML w) :
    Calls Tryz.prog 28 #[.slice A l.length c] w (StPost w (cpE l)) := by
  have hmem := dW_mem hsum
  have hl := dW_len hsum
  unfold cpE
  obtain ⟨R, hR⟩ : ∃ R, cpGo l [] = R := ⟨_, rfl⟩
  rw [hR]
  have HR := Lib.hid hR
  clear hR
  go_enter Tryz.func28, Tryz.ntmps28
  go_wp2_with fail
  go_loopw [4, 12] (fun o i' wr => ∃ (k : Nat) (acc : List UInt8) (ts : List (List UInt8)), i' = .int .i64 k ∧ o = S acc ∧ k ≤ l.length ∧ Below w.heap.size w wr ∧ Hid (acc = Lib.join ts [44, 32] ∧ ts.length = k ∧ (ts.map (fun v => v.length + 2)).sum + 2 * ((l.drop k).map dW).sum ≤ 2097152 ∧ cpGo (l.drop k) ts = R)) (fun _ i' _ => l.length - (intOf i').toNat)
  case atStart => exact ⟨0, [], [], rfl, rfl, by omega, Below.refl _ _, Lib.hid ⟨rfl, rfl, by simp; omega, HR.out⟩⟩
  case round =>
    obtain ⟨k, acc, ts, rfl, rfl, hk, hbel, hall⟩ := hrel
    obtain ⟨hacc, htk, hsm, heq2⟩ := hall.out
    clear hall
    have hbs := hbel.size
    have hal : acc.length ≤ 2097152 := by
      have := join_len_le ts
      simp only [sepL] at this
      rw [hacc]
      omega
    by_cases hlt : k < l.length
    · obtain ⟨⟨n, b, a⟩, hx, hs⟩ := drop_step hlt
      obtain ⟨hn, ha⟩ := hmem _ (List.mem_of_getElem? hx)
      obtain ⟨g, off, rfl, hgb, hc0, hc1, hc2⟩ := (hr.below hbel (Nat.le_refl _)).at_D hx
      simp only at hn ha hc0 hc1 hc2
      have hsm2 := hsm
      rw [hs] at heq2 hsm2
      have hB1 := hbel.alloc hbs (.cells #[S n, .bool b, S a] 95)
      have hM1 : ML (wr.alloc (.cells #[S n, .bool b, S a] 95)).drew := (hM.keep hbel).alloc _
      have hit := fun w => fc_TokenR n (by omega) w
      have hita := fun w => fc_TokenR a (by omega) w
      have hlo := fun w => w_LowerR n (by omega) w
      have hqu : ∀ w, ML w → Calls Tryz.prog 18 #[S a] w (StPost w (quoE a)) := fun w h => by
        obtain ⟨m, hm⟩ := h
        exact w_QuoteR a (by omega) m w hm
      have hok : dirOK (n, b, a) = (isTok n && (n == lowL n) && (b || a.isEmpty)) := rfl
      have hpr : ∃ pre : List UInt8, (k = 0 ∧ pre = [] ∨ 0 < k ∧ pre = [44, 32]) ∧ ∀ x, Lib.join (ts ++ [x]) [44, 32] = acc ++ pre ++ x := by
        rcases Nat.eq_zero_or_pos k with h0 | h0
        · refine ⟨[], .inl ⟨h0, rfl⟩, fun x => ?_⟩
          have : ts = [] := List.length_eq_zero_iff.1 (by omega)
          subst this
          rw [hacc]; simp [Lib.join_nil, Lib.join_one]
        · refine ⟨[44, 32], .inr ⟨h0, rfl⟩, fun x => ?_⟩
          have : ts.isEmpty = false := by cases ts with
            | nil => simp at htk; omega
            | cons _ _ => rfl
          rw [join_snocG, this, hacc]; simp
      obtain ⟨pre, hpre0, hpj⟩ := hpr
      have Hpre := Lib.hid hpj
      have Htk := Lib.hid htk
      clear hpj htk hacc hsm hs hx
      rcases hpre0 with ⟨hk0, hpre⟩ | ⟨hk0, hpre⟩
      · have hkI : ¬ (0 : Int) < (k : Int) := by omega
        have Hk0 := Lib.hid hk0
        subst hpre
        have hpre : True := trivial
        clear hk0
        cases ht : isTok n
        · have Hq := Lib.hid (show R = .error 3 from by rw [← heq2]; exact cp_err (dirE_bad (by rw [hok, ht]; rfl)))
          simp only [ht] at hit
          clear heq2 hsm2 hok ht
          go_wp2_with fail
          first
            | go_region_with (first
                | (go_at_call 89; refine (hit _).mono ?_; rintro e w' ⟨rfl, rfl⟩)
                | (go_at_call 88; refine (hlo _).mono ?_; rintro e w' ⟨rfl, rfl⟩))
            | fail
          all_goals go_wp2
          all_goals
            go_ret2
            rw [Hq.out]
            exact ⟨rfl, hB1.drew⟩
        · simp only [ht] at hit
          cases hl : (lowL n == n)
          · have Hq := Lib.hid (show R = .error 3 from by rw [← heq2]; exact cp_err (dirE_bad (by rw [hok, show (n == lowL n) = false from by rw [Bool.eq_false_iff] at hl ⊢; intro h; apply hl; rw [beq_iff_eq] at h ⊢; exact h.symm]; simp)))
            generalize lowL n = ln at hlo hl
            clear heq2 hsm2 hok ht
            go_wp2_with fail
            first
              | go_region_with (first
                  | (go_at_call 89; refine (hit _).mono ?_; rintro e w' ⟨rfl, rfl⟩)
                  | (go_at_call 88; refine (hlo _).mono ?_; rintro e w' ⟨rfl, rfl⟩))
              | fail
            all_goals go_wp2
            all_goals
              go_ret2
              rw [Hq.out]
              exact ⟨rfl, hB1.drew⟩
          · have hln : lowL n = n := by simpa using hl
            rw [hln] at hlo
            have ht2 : (isTok n && (n == lowL n)) = true := by rw [ht, hln]; simp
            clear hl hln
            cases b
            · cases a with
              | cons a0 a =>
                have Hq := Lib.hid (show R = .error 3 from by rw [← heq2]; exact cp_err (dirE_bad (by rw [hok]; simp)))
                have hne : (a0 :: a).isEmpty = false := rfl
                generalize a0 :: a = A0 at *
                clear heq2 hsm2 hok ht ht2
                go_wp2_with fail
                first
                  | go_region_with (first
                      | (go_at_call 89; refine (hit _).mono ?_; rintro e w' ⟨rfl, rfl⟩)
                      | (go_at_call 88; refine (hlo _).mono ?_; rintro e w' ⟨rfl, rfl⟩))
                  | fail
                all_goals go_wp2
                all_goals
                  go_ret2
                  rw [Hq.out]
                  exact ⟨rfl, hB1.drew⟩
              | nil =>
                have hD : dirE (n, false, []) = .ok n := by unfold dirE; rw [if_pos (by rw [hok, ht2]; simp)]; rfl
                rw [cp_ok hD] at heq2
                have Hq := Lib.hid heq2
                have Hsm := Lib.hid (show ((ts ++ [n]).map (fun v => v.length + 2)).sum + 2 * ((l.drop (k + 1)).map dW).sum ≤ 2097152 from by
                  simp only [List.map_cons, List.sum_cons, dW] at hsm2
                  simp only [List.map_append, List.map_cons, List.map_nil, List.sum_append, List.sum_cons, List.sum_nil, List.length_append, List.length_cons, List.length_nil, dW]
                  omega)
                clear heq2 hsm2 hok ht ht2 hD
                go_wp2_with fail
                first
                  | go_region_with (first
                      | (go_at_call 89; refine (hit _).mono ?_; rintro e w' ⟨rfl, rfl⟩)
                      | (go_at_call 88; refine (hlo _).mono ?_; rintro e w' ⟨rfl, rfl⟩))
                  | fail
                all_goals go_wp2_with fail
                all_goals
                  simp only [undef]
                  go_roundw
                  case rel => exact ⟨k + 1, _, ts ++ [n], by go_num, rfl, by omega, hB1.drew, Lib.hid ⟨by rw [Hpre.out]; simp [hpre], by simp [Htk.out], Hsm.out, Hq.out⟩⟩
                  case measure => simp [intOf]; omega
            · have hlat : dirOK (n, true, a) = true := by rw [hok, ht2]; simp
              have hD : dirE (n, true, a) = (if isTok a = true then .ok (n ++ [61] ++ a) else match quoE a with
                | .error e => .error e
                | .ok q => .ok (n ++ [61] ++ q)) := by unfold dirE; rw [if_pos hlat]; simp only [if_true]; rfl
              clear hok hlat ht2 ht
              cases hta : isTok a
              · simp only [hta] at hita
                rw [hta, if_neg (by simp)] at hD
                cases hq : quoE a with
                | error e =>
                  rw [hq] at hD
                  simp only [hq] at hqu
                  rw [cp_err hD] at heq2
                  have Hq := Lib.hid heq2.symm
                  have he := quo_err hq
                  clear heq2 hsm2 hD hq hta
                  go_wp2_with fail
                  first
                    | go_region_with (first
                        | (go_at_call 89; refine (hit _).mono ?_; rintro e w' ⟨rfl, rfl⟩)
                        | (go_at_call 88; refine (hlo _).mono ?_; rintro e w' ⟨rfl, rfl⟩))
                    | fail
                  all_goals go_wp2_with (first
                    | (go_at_call 89; refine (hita _).mono ?_; rintro e1 w' ⟨rfl, rfl⟩)
                    | (go_at_call 18; refine (hqu _ hM1).mono ?_; rintro e1 w2 ⟨rfl, hb2⟩))
                  all_goals
                    go_ret2
                    rw [Hq.out]
                    exact ⟨rfl, hB1.drew.trans (hb2.mono (by show w.heap.size ≤ (wr.alloc _).heap.size; simp; omega))⟩
                | ok q =>
                  rw [hq] at hD
                  simp only [hq] at hqu
                  rw [cp_ok hD] at heq2
                  have Hq := Lib.hid heq2
                  have hql := quo_len hq
                  have Hsm := Lib.hid (show ((ts ++ [n ++ [61] ++ q]).map (fun (v : List UInt8) => v.length + 2)).sum + 2 * ((l.drop (k + 1)).map dW).sum ≤ 2097152 from by
                    simp only [List.map_cons, List.sum_cons, dW] at hsm2
                    simp only [List.map_append, List.map_cons, List.map_nil, List.sum_append, List.sum_cons, List.sum_nil, List.length_append, List.length_cons, List.length_nil, dW]
                    omega)
                  clear heq2 hsm2 hD hq hta
                  go_wp2_with fail
                  first
                    | go_region_with (first
                        | (go_at_call 89; refine (hit _).mono ?_; rintro e w' ⟨rfl, rfl⟩)
                        | (go_at_call 88; refine (hlo _).mono ?_; rintro e w' ⟨rfl, rfl⟩))
                    | fail
                  all_goals go_wp2_with (first
                    | (go_at_call 89; refine (hita _).mono ?_; rintro e1 w' ⟨rfl, rfl⟩)
                    | (go_at_call 18; refine (hqu _ hM1).mono ?_; rintro e1 w2 ⟨rfl, hb2⟩))
                  all_goals
                    simp only [undef]
                    go_roundw
                    case rel => exact ⟨k + 1, _, ts ++ [n ++ [61] ++ q], by go_num, rfl, by omega, hB1.drew.trans (hb2.mono (by show w.heap.size ≤ (wr.alloc _).heap.size; simp; omega)), Lib.hid ⟨by rw [Hpre.out]; simp [hpre], by simp [Htk.out], Hsm.out, Hq.out⟩⟩
                    case measure => simp [intOf]; omega
              · simp only [hta] at hita
                rw [hta, if_pos rfl] at hD
                rw [cp_ok hD] at heq2
                have Hq := Lib.hid heq2
                have Hsm := Lib.hid (show ((ts ++ [n ++ [61] ++ a]).map (fun (v : List UInt8) => v.length + 2)).sum + 2 * ((l.drop (k + 1)).map dW).sum ≤ 2097152 from by
                  simp only [List.map_cons, List.sum_cons, dW] at hsm2
                  simp only [List.map_append, List.map_cons, List.map_nil, List.sum_append, List.sum_cons, List.sum_nil, List.length_append, List.length_cons, List.length_nil, dW]
                  omega)
                clear heq2 hsm2 hD hta
                go_wp2_with fail
                first
                  | go_region_with (first
                      | (go_at_call 89; refine (hit _).mono ?_; rintro e w' ⟨rfl, rfl⟩)
                      | (go_at_call 88; refine (hlo _).mono ?_; rintro e w' ⟨rfl, rfl⟩))
                  | fail
                all_goals go_wp2_with (go_at_call 89; refine (hita _).mono ?_; rintro e1 w' ⟨rfl, rfl⟩)
                all_goals
                  simp only [undef]
                  go_roundw
                  case rel => exact ⟨k + 1, _, ts ++ [n ++ [61] ++ a], by go_num, rfl, by omega, hB1.drew, Lib.hid ⟨by rw [Hpre.out]; simp [hpre], by simp [Htk.out], Hsm.out, Hq.out⟩⟩
                  case measure => simp [intOf]; omega
      · have hkI : (0 : Int) < (k : Int) := by omega
        subst hpre
        have hpre : True := trivial
        clear hk0
        cases ht : isTok n
        · have Hq := Lib.hid (show R = .error 3 from by rw [← heq2]; exact cp_err (dirE_bad (by rw [hok, ht]; rfl)))
          simp only [ht] at hit
          clear heq2 hsm2 hok ht
          go_wp2_with fail
          first
            | go_region_with (first
                | (go_at_call 89; refine (hit _).mono ?_; rintro e w' ⟨rfl, rfl⟩)
                | (go_at_call 88; refine (hlo _).mono ?_; rintro e w' ⟨rfl, rfl⟩))
            | fail
          all_goals go_wp2
          all_goals
            go_ret2
            rw [Hq.out]
            exact ⟨rfl, hB1.drew⟩
        · simp only [ht] at hit
          cases hl : (lowL n == n)
          · have Hq := Lib.hid (show R = .error 3 from by rw [← heq2]; exact cp_err (dirE_bad (by rw [hok, show (n == lowL n) = false from by rw [Bool.eq_false_iff] at hl ⊢; intro h; apply hl; rw [beq_iff_eq] at h ⊢; exact h.symm]; simp)))
            generalize lowL n = ln at hlo hl
            clear heq2 hsm2 hok ht
            go_wp2_with fail
            first
              | go_region_with (first
                  | (go_at_call 89; refine (hit _).mono ?_; rintro e w' ⟨rfl, rfl⟩)
                  | (go_at_call 88; refine (hlo _).mono ?_; rintro e w' ⟨rfl, rfl⟩))
              | fail
            all_goals go_wp2
            all_goals
              go_ret2
              rw [Hq.out]
              exact ⟨rfl, hB1.drew⟩
          · have hln : lowL n = n := by simpa using hl
            rw [hln] at hlo
            have ht2 : (isTok n && (n == lowL n)) = true := by rw [ht, hln]; simp
            clear hl hln
            cases b
            · cases a with
              | cons a0 a =>
                have Hq := Lib.hid (show R = .error 3 from by rw [← heq2]; exact cp_err (dirE_bad (by rw [hok]; simp)))
                have hne : (a0 :: a).isEmpty = false := rfl
                generalize a0 :: a = A0 at *
                clear heq2 hsm2 hok ht ht2
                go_wp2_with fail
                first
                  | go_region_with (first
                      | (go_at_call 89; refine (hit _).mono ?_; rintro e w' ⟨rfl, rfl⟩)
                      | (go_at_call 88; refine (hlo _).mono ?_; rintro e w' ⟨rfl, rfl⟩))
                  | fail
                all_goals go_wp2
                all_goals
                  go_ret2
                  rw [Hq.out]
                  exact ⟨rfl, hB1.drew⟩
              | nil =>
                have hD : dirE (n, false, []) = .ok n := by unfold dirE; rw [if_pos (by rw [hok, ht2]; simp)]; rfl
                rw [cp_ok hD] at heq2
                have Hq := Lib.hid heq2
                have Hsm := Lib.hid (show ((ts ++ [n]).map (fun v => v.length + 2)).sum + 2 * ((l.drop (k + 1)).map dW).sum ≤ 2097152 from by
                  simp only [List.map_cons, List.sum_cons, dW] at hsm2
                  simp only [List.map_append, List.map_cons, List.map_nil, List.sum_append, List.sum_cons, List.sum_nil, List.length_append, List.length_cons, List.length_nil, dW]
                  omega)
                clear heq2 hsm2 hok ht ht2 hD
                go_wp2_with fail
                first
                  | go_region_with (first
                      | (go_at_call 89; refine (hit _).mono ?_; rintro e w' ⟨rfl, rfl⟩)
                      | (go_at_call 88; refine (hlo _).mono ?_; rintro e w' ⟨rfl, rfl⟩))
                  | fail
                all_goals go_wp2_with fail
                all_goals
                  simp only [undef]
                  go_roundw
                  case rel => exact ⟨k + 1, _, ts ++ [n], by go_num, rfl, by omega, hB1.drew, Lib.hid ⟨by rw [Hpre.out]; simp [hpre], by simp [Htk.out], Hsm.out, Hq.out⟩⟩
                  case measure => simp [intOf]; omega
            · have hlat : dirOK (n, true, a) = true := by rw [hok, ht2]; simp
              have hD : dirE (n, true, a) = (if isTok a = true then .ok (n ++ [61] ++ a) else match quoE a with
                | .error e => .error e
                | .ok q => .ok (n ++ [61] ++ q)) := by unfold dirE; rw [if_pos hlat]; simp only [if_true]; rfl
              clear hok hlat ht2 ht
              cases hta : isTok a
              · simp only [hta] at hita
                rw [hta, if_neg (by simp)] at hD
                cases hq : quoE a with
                | error e =>
                  rw [hq] at hD
                  simp only [hq] at hqu
                  rw [cp_err hD] at heq2
                  have Hq := Lib.hid heq2.symm
                  have he := quo_err hq
                  clear heq2 hsm2 hD hq hta
                  go_wp2_with fail
                  first
                    | go_region_with (first
                        | (go_at_call 89; refine (hit _).mono ?_; rintro e w' ⟨rfl, rfl⟩)
                        | (go_at_call 88; refine (hlo _).mono ?_; rintro e w' ⟨rfl, rfl⟩))
                    | fail
                  all_goals go_wp2_with (first
                    | (go_at_call 89; refine (hita _).mono ?_; rintro e1 w' ⟨rfl, rfl⟩)
                    | (go_at_call 18; refine (hqu _ hM1).mono ?_; rintro e1 w2 ⟨rfl, hb2⟩))
                  all_goals
                    go_ret2
                    rw [Hq.out]
                    exact ⟨rfl, hB1.drew.trans (hb2.mono (by show w.heap.size ≤ (wr.alloc _).heap.size; simp; omega))⟩
                | ok q =>
                  rw [hq] at hD
                  simp only [hq] at hqu
                  rw [cp_ok hD] at heq2
                  have Hq := Lib.hid heq2
                  have hql := quo_len hq
                  have Hsm := Lib.hid (show ((ts ++ [n ++ [61] ++ q]).map (fun (v : List UInt8) => v.length + 2)).sum + 2 * ((l.drop (k + 1)).map dW).sum ≤ 2097152 from by
                    simp only [List.map_cons, List.sum_cons, dW] at hsm2
                    simp only [List.map_append, List.map_cons, List.map_nil, List.sum_append, List.sum_cons, List.sum_nil, List.length_append, List.length_cons, List.length_nil, dW]
                    omega)
                  clear heq2 hsm2 hD hq hta
                  go_wp2_with fail
                  first
                    | go_region_with (first
                        | (go_at_call 89; refine (hit _).mono ?_; rintro e w' ⟨rfl, rfl⟩)
                        | (go_at_call 88; refine (hlo _).mono ?_; rintro e w' ⟨rfl, rfl⟩))
                    | fail
                  all_goals go_wp2_with (first
                    | (go_at_call 89; refine (hita _).mono ?_; rintro e1 w' ⟨rfl, rfl⟩)
                    | (go_at_call 18; refine (hqu _ hM1).mono ?_; rintro e1 w2 ⟨rfl, hb2⟩))
                  all_goals
                    simp only [undef]
                    go_roundw
                    case rel => exact ⟨k + 1, _, ts ++ [n ++ [61] ++ q], by go_num, rfl, by omega, hB1.drew.trans (hb2.mono (by show w.heap.size ≤ (wr.alloc _).heap.size; simp; omega)), Lib.hid ⟨by rw [Hpre.out]; simp [hpre], by simp [Htk.out], Hsm.out, Hq.out⟩⟩
                    case measure => simp [intOf]; omega
              · simp only [hta] at hita
                rw [hta, if_pos rfl] at hD
                rw [cp_ok hD] at heq2
                have Hq := Lib.hid heq2
                have Hsm := Lib.hid (show ((ts ++ [n ++ [61] ++ a]).map (fun (v : List UInt8) => v.length + 2)).sum + 2 * ((l.drop (k + 1)).map dW).sum ≤ 2097152 from by
                  simp only [List.map_cons, List.sum_cons, dW] at hsm2
                  simp only [List.map_append, List.map_cons, List.map_nil, List.sum_append, List.sum_cons, List.sum_nil, List.length_append, List.length_cons, List.length_nil, dW]
                  omega)
                clear heq2 hsm2 hD hta
                go_wp2_with fail
                first
                  | go_region_with (first
                      | (go_at_call 89; refine (hit _).mono ?_; rintro e w' ⟨rfl, rfl⟩)
                      | (go_at_call 88; refine (hlo _).mono ?_; rintro e w' ⟨rfl, rfl⟩))
                  | fail
                all_goals go_wp2_with (go_at_call 89; refine (hita _).mono ?_; rintro e1 w' ⟨rfl, rfl⟩)
                all_goals
                  simp only [undef]
                  go_roundw
                  case rel => exact ⟨k + 1, _, ts ++ [n ++ [61] ++ a], by go_num, rfl, by omega, hB1.drew, Lib.hid ⟨by rw [Hpre.out]; simp [hpre], by simp [Htk.out], Hsm.out, Hq.out⟩⟩
                  case measure => simp [intOf]; omega
    · rw [drop_end hlt] at heq2
      have Hq : Hid (R = .ok ts) := Lib.hid heq2.symm
      have hkl : k = l.length := by omega
      have hend : cpEnd R = if 20 < l.length ∨ 1000 < acc.length then .error 2 else .ok acc := by
        rw [Hq.out, ← hkl, ← htk, hacc]; rfl
      clear heq2 hacc htk hsm hkl
      by_cases h20 : 20 < l.length
      · have He := Lib.hid (show cpEnd R = .error 2 from by rw [hend, if_pos (.inl h20)])
        clear hend
        go_wp2_with fail
        go_ret2
        rw [He.out]
        exact ⟨rfl, hbel⟩
      · by_cases h1000 : 1000 < acc.length
        · have He := Lib.hid (show cpEnd R = .error 2 from by rw [hend, if_pos (.inr h1000)])
          clear hend
          go_wp2_with fail
          go_ret2
          rw [He.out]
          exact ⟨rfl, hbel⟩
        · have He := Lib.hid (show cpEnd R = .ok acc from by rw [hend, if_neg (by omega)])
          clear hend
          go_wp2_with fail
          go_ret2
          rw [He.out]
          exact ⟨rfl, hbel⟩
end Go.Proofs.YtemjoiaapfhenaaGreatDoor
