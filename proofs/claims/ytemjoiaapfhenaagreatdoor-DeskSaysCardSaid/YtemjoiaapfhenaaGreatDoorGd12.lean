/- WCtpP, WCtpQ -/
import Derived.Test.YtemjoiaapfhenaaGreatDoorGd11
import Derived.Test.YtemjoiaapfhenaaGreatDoorGd07
import Derived.Test.YtemjoiaapfhenaaGreatDoorGd02
import Derived.Test.YtemjoiaapfhenaaGreatDoorGd00
import Derived.Deep.RegionWith
import Derived.Test.YtemjoiaapfhenaaGreatDoorGd01

/- WCtpP -/
section
namespace Go.Proofs.YtemjoiaapfhenaaGreatDoor
open Go.RowKit Go.Larder
set_option linter.unusedVariables false
set_option linter.unusedSimpArgs false


-- an operation that was not wanted leaves undef: the guard that leans on it is read off by this
attribute [local go_sem] undef
theorem dirE_bad {n a : List UInt8} {b : Bool} (h : dirOK (n, b, a) = false) : dirE (n, b, a) = .error 3 := by unfold dirE; rw [h]; rfl
set_option maxHeartbeats 4000000 in
theorem w_text (n a : List UInt8) (b : Bool) (hn : n.length ≤ 1048576) (ha : a.length ≤ 1048576) (w : World) :
    Calls Tryz.prog 120 #[.agg #[S n, .bool b, S a]] w (StPost w (dirE (n, b, a))) := by
  have bx := BoxAt.new w [S n, .bool b, S a] 95
  have hB0 := (Below.refl w.heap.size w).alloc (Nat.le_refl _) (.cells #[S n, .bool b, S a] 95)
  have hit := fun w => fc_IsToken n (by omega) w
  have hita := fun w => fc_IsToken a (by omega) w
  have hlo := fun w => w_Lower n (by omega) w
  have hqu := fun w => w_Quote a (by omega) w
  obtain ⟨R, hR⟩ : ∃ R, dirE (n, b, a) = R := ⟨_, rfl⟩
  rw [hR]
  have hok : dirOK (n, b, a) = (isTok n && (n == lowL n) && (b || a.isEmpty)) := rfl
  cases ht : isTok n
  · simp only [ht] at hit
    have Hq := Lib.hid (show R = .error 3 from by rw [← hR]; exact dirE_bad (by rw [hok, ht]; rfl))
    clear hR hok ht
    go_enter Tryz.func120, Tryz.ntmps120
    go_wp2_with fail
    first
      | go_region_with (go_at_call 169; refine (hit _).mono ?_; rintro e w' ⟨rfl, rfl⟩)
      | fail
    all_goals go_wp2
    all_goals
      go_ret2
      rw [Hq.out]
      exact ⟨rfl, hB0.drew⟩
  · simp only [ht] at hit
    cases hl : (n == lowL n)
    · have Hq := Lib.hid (show R = .error 3 from by rw [← hR]; exact dirE_bad (by rw [hok, hl]; simp))
      generalize lowL n = ln at hlo hl
      clear hR hok ht
      go_enter Tryz.func120, Tryz.ntmps120
      go_wp2_with fail
      first
        | go_region_with (first
          | (go_at_call 169; refine (hit _).mono ?_; rintro e w' ⟨rfl, rfl⟩)
          | (go_at_call 168; refine (hlo _).mono ?_; rintro e w1 ⟨rfl, hb1⟩; have bx1 := bx.drew.keep hb1; have q0 := bx1.cell (j := 0) rfl; have q1 := bx1.cell (j := 1) rfl; have q2 := bx1.cell (j := 2) rfl; have hB1 := hB0.drew.trans (hb1.mono (by show w.heap.size ≤ (w.heap.push _).size; simp))))
        | fail
      all_goals go_wp2
      all_goals
        go_ret2
        rw [Hq.out]
        exact ⟨rfl, hB1⟩
    · have hln : lowL n = n := by have := hl; simp at this; exact this.symm
      rw [hln] at hlo
      have ht2 : (isTok n && (n == lowL n)) = true := by rw [ht, hl]; rfl
      clear hl hln
      cases b
      · cases a with
        | cons a0 a =>
          have Hq := Lib.hid (show R = .error 3 from by rw [← hR]; exact dirE_bad (by rw [hok]; simp))
          have hne : (a0 :: a).isEmpty = false := rfl
          generalize a0 :: a = A at *
          clear hR hok ht
          go_enter Tryz.func120, Tryz.ntmps120
          go_wp2_with fail
          first
            | go_region_with (first
              | (go_at_call 169; refine (hit _).mono ?_; rintro e w' ⟨rfl, rfl⟩)
              | (go_at_call 168; refine (hlo _).mono ?_; rintro e w1 ⟨rfl, hb1⟩; have bx1 := bx.drew.keep hb1; have q0 := bx1.cell (j := 0) rfl; have q1 := bx1.cell (j := 1) rfl; have q2 := bx1.cell (j := 2) rfl; have hB1 := hB0.drew.trans (hb1.mono (by show w.heap.size ≤ (w.heap.push _).size; simp))))
            | fail
          all_goals go_wp2
          all_goals
            go_ret2
            rw [Hq.out]
            exact ⟨rfl, hB1⟩
        | nil =>
          have Hq := Lib.hid (show R = .ok n from by rw [← hR]; unfold dirE; rw [if_pos (by rw [hok, ht2]; simp)]; rfl)
          clear hR hok ht
          go_enter Tryz.func120, Tryz.ntmps120
          go_wp2_with fail
          first
            | go_region_with (first
              | (go_at_call 169; refine (hit _).mono ?_; rintro e w' ⟨rfl, rfl⟩)
              | (go_at_call 168; refine (hlo _).mono ?_; rintro e w1 ⟨rfl, hb1⟩; have bx1 := bx.drew.keep hb1; have q0 := bx1.cell (j := 0) rfl; have q1 := bx1.cell (j := 1) rfl; have q2 := bx1.cell (j := 2) rfl; have hB1 := hB0.drew.trans (hb1.mono (by show w.heap.size ≤ (w.heap.push _).size; simp))))
            | fail
          all_goals go_wp2
          all_goals
            go_ret2
            rw [Hq.out]
            exact ⟨rfl, hB1⟩
      · have hlat : dirOK (n, true, a) = true := by rw [hok, ht2]; simp
        have hD : dirE (n, true, a) = (if isTok a = true then .ok (n ++ [61] ++ a) else match quoE a with
          | .error e => .error e
          | .ok q => .ok (n ++ [61] ++ q)) := by unfold dirE; rw [if_pos hlat]; simp only [if_true]; rfl
        rw [hD] at hR
        clear hok hlat hD ht2
        cases hta : isTok a
        · simp only [hta] at hita
          rw [hta, if_neg (by simp)] at hR
          cases hq : quoE a with
          | error e =>
            rw [hq] at hR hqu
            have Hq := Lib.hid hR.symm
            have he := quo_err hq
            clear hR hq hta
            go_enter Tryz.func120, Tryz.ntmps120
            go_wp2_with fail
            first
              | go_region_with (first
                | (go_at_call 169; refine (hit _).mono ?_; rintro e w' ⟨rfl, rfl⟩)
                | (go_at_call 168; refine (hlo _).mono ?_; rintro e w1 ⟨rfl, hb1⟩; have bx1 := bx.drew.keep hb1; have q0 := bx1.cell (j := 0) rfl; have q1 := bx1.cell (j := 1) rfl; have q2 := bx1.cell (j := 2) rfl; have hB1 := hB0.drew.trans (hb1.mono (by show w.heap.size ≤ (w.heap.push _).size; simp))))
              | fail
            all_goals go_wp2_with (first
              | (go_at_call 169; refine (hita _).mono ?_; rintro e1 w' ⟨rfl, rfl⟩)
              | (go_at_call 40; refine (hqu _).mono ?_; rintro e1 w2 ⟨rfl, hb2⟩))
            all_goals
              go_ret2
              rw [Hq.out]
              exact ⟨rfl, hB1.trans (hb2.mono hB1.size)⟩
          | ok q =>
            rw [hq] at hR hqu
            have Hq := Lib.hid hR.symm
            have hql := quo_len hq
            clear hR hq hta
            go_enter Tryz.func120, Tryz.ntmps120
            go_wp2_with fail
            first
              | go_region_with (first
                | (go_at_call 169; refine (hit _).mono ?_; rintro e w' ⟨rfl, rfl⟩)
                | (go_at_call 168; refine (hlo _).mono ?_; rintro e w1 ⟨rfl, hb1⟩; have bx1 := bx.drew.keep hb1; have q0 := bx1.cell (j := 0) rfl; have q1 := bx1.cell (j := 1) rfl; have q2 := bx1.cell (j := 2) rfl; have hB1 := hB0.drew.trans (hb1.mono (by show w.heap.size ≤ (w.heap.push _).size; simp))))
              | fail
            all_goals go_wp2_with (first
              | (go_at_call 169; refine (hita _).mono ?_; rintro e1 w' ⟨rfl, rfl⟩)
              | (go_at_call 40; refine (hqu _).mono ?_; rintro e1 w2 ⟨rfl, hb2⟩; have bx2 := bx1.keep hb2; have r0 := bx2.cell (j := 0) rfl; have r1 := bx2.cell (j := 1) rfl; have r2 := bx2.cell (j := 2) rfl))
            all_goals
              go_ret2
              rw [Hq.out]
              exact ⟨by simp, hB1.trans (hb2.mono hB1.size)⟩
        · simp only [hta] at hita
          rw [hta, if_pos rfl] at hR
          have Hq := Lib.hid hR.symm
          clear hR hta
          go_enter Tryz.func120, Tryz.ntmps120
          go_wp2_with fail
          first
            | go_region_with (first
              | (go_at_call 169; refine (hit _).mono ?_; rintro e w' ⟨rfl, rfl⟩)
              | (go_at_call 168; refine (hlo _).mono ?_; rintro e w1 ⟨rfl, hb1⟩; have bx1 := bx.drew.keep hb1; have q0 := bx1.cell (j := 0) rfl; have q1 := bx1.cell (j := 1) rfl; have q2 := bx1.cell (j := 2) rfl; have hB1 := hB0.drew.trans (hb1.mono (by show w.heap.size ≤ (w.heap.push _).size; simp))))
            | fail
          all_goals go_wp2_with (go_at_call 169; refine (hita _).mono ?_; rintro e1 w' ⟨rfl, rfl⟩)
          all_goals
            go_ret2
            rw [Hq.out]
            exact ⟨by simp, hB1⟩
end Go.Proofs.YtemjoiaapfhenaaGreatDoor
end

/- WCtpQ -/
section
namespace Go.Proofs.YtemjoiaapfhenaaGreatDoor
open Go.RowKit Go.Larder
set_option linter.unusedVariables false
set_option linter.unusedSimpArgs false


theorem sl_strC : SlT Tryz.prog 22 9 1 16 := SlT.mk' (z := .string ByteArray.empty) Tryz.underlying22 (by kernel_rfl) rfl
abbrev dW (f : Dr) : Nat := f.1.length + f.2.2.length + 4
theorem dW_mem {l : List Dr} (h : (l.map dW).sum ≤ 1048576) : ∀ f ∈ l, f.1.length ≤ 1048576 ∧ f.2.2.length ≤ 1048576 := by
  induction l with
  | nil => simp
  | cons a l ih =>
    intro f hf
    rw [List.map_cons, List.sum_cons] at h
    have hd : dW a = a.1.length + a.2.2.length + 4 := rfl
    rcases List.mem_cons.1 hf with rfl | hf
    · omega
    · exact ih (by omega) f hf
theorem dW_len {l : List Dr} (h : (l.map dW).sum ≤ 1048576) : l.length ≤ 1048576 := by
  have : ∀ l : List Dr, l.length ≤ (l.map dW).sum := by
    intro l
    induction l with
    | nil => simp
    | cons a l ih =>
      rw [List.map_cons, List.sum_cons, List.length_cons]
      have hd : dW a = a.1.length + a.2.2.length + 4 := rfl
      omega
  have := this l
  omega
theorem cp_err {d : Dr} {l : List Dr} {ts : List (List UInt8)} {e : Int} (h : dirE d = .error e) : cpGo (d :: l) ts = .error e := by unfold cpGo; rw [h]
theorem cp_ok {d : Dr} {l : List Dr} {ts : List (List UInt8)} {t : List UInt8} (h : dirE d = .ok t) : cpGo (d :: l) ts = cpGo l (ts ++ [t]) := by
  conv => lhs; unfold cpGo
  rw [h]

set_option maxHeartbeats 4000000 in
theorem w_CPrint (l : List Dr) (hsum : (l.map dW).sum ≤ 1048576) (A : Option Addr) (c : Nat) (w : World) (hr : ReadL encD w w.heap.size A l) :
    Calls Tryz.prog 56 #[.slice A l.length c] w (StPost w (cpE l)) := by
  have hmem := dW_mem hsum
  have hl := dW_len hsum
  unfold cpE
  obtain ⟨R, hR⟩ : ∃ R, cpGo l [] = R := ⟨_, rfl⟩
  rw [hR]
  have HR := Lib.hid hR
  clear hR
  go_enter Tryz.func56, Tryz.ntmps56
  go_wp2_with fail
  go_loopw [4, 12] (fun o i' wr => ∃ (k : Nat) (ts : List (List UInt8)) (A2 : Option Addr) (c2 : Nat), i' = .int .i64 k ∧ o = .slice A2 ts.length c2 ∧ k ≤ l.length ∧ ts.length ≤ k ∧ OwnL encS wr w.heap.size 9 A2 c2 ts ∧ Below w.heap.size w wr ∧ Hid ((ts.map (fun v => v.length + 2)).sum + 2 * ((l.drop k).map dW).sum ≤ 2097152) ∧ Hid (cpGo (l.drop k) ts = R)) (fun _ i' _ => l.length - (intOf i').toNat)
  case atStart => exact ⟨0, [], none, 0, rfl, rfl, by omega, by simp, OwnL.nil _ _ _, Below.refl _ _, Lib.hid (by simp; omega), HR⟩
  case round =>
    obtain ⟨k, ts, A2, c2, rfl, rfl, hk, htk, hown, hbel, hsm, heq⟩ := hrel
    have hbs := hbel.size
    by_cases hlt : k < l.length
    · obtain ⟨⟨n, b, a⟩, hx, hs⟩ := drop_step hlt
      obtain ⟨hn, ha⟩ := hmem _ (List.mem_of_getElem? hx)
      obtain ⟨g, off, rfl, hgb, hc0, hc1, hc2⟩ := (hr.below hbel (Nat.le_refl _)).at_D hx
      simp only at hn ha hc0 hc1 hc2
      have heq2 := heq.out
      have hsm2 := hsm.out
      rw [hs] at heq2 hsm2
      have ht := fun w => w_text n a b hn ha w
      have hB1 := hbel.alloc hbs (.cells #[S n, .bool b, S a] 95)
      cases hd : dirE (n, b, a) with
      | error e =>
        rw [cp_err hd] at heq2
        simp only [hd] at ht
        have Hq := Lib.hid heq2.symm
        have he := dir_err hd
        clear heq2 hsm2 hs hx hd
        go_wp2_with (go_at_call 120; refine (ht _).mono ?_; rintro e1 w1 ⟨rfl, hb1⟩)
        go_ret2
        rw [Hq.out]
        exact ⟨rfl, hB1.trans (hb1.mono hB1.size)⟩
      | ok t =>
        rw [cp_ok hd] at heq2
        simp only [hd] at ht
        have Hq := Lib.hid heq2
        have htl := dir_len hd
        simp only at htl
        have Hsm := Lib.hid (show ((ts ++ [t]).map (fun v => v.length + 2)).sum + 2 * ((l.drop (k + 1)).map dW).sum ≤ 2097152 from by
          simp only [List.map_cons, List.sum_cons, dW] at hsm2
          simp only [List.map_append, List.map_cons, List.map_nil, List.sum_append, List.sum_cons, List.sum_nil, dW]
          omega)
        clear heq2 hsm2 hs hx hd hsm
        go_wp2_with (first
          | (go_at_call 120; refine (ht _).mono ?_; rintro e1 w1 ⟨rfl, hb1⟩
             have hB2 := hB1.trans (hb1.mono hB1.size)
             have hown2 := (hown.alloc (.cells #[S n, .bool b, S a] 95)).below hb1 (Nat.le_refl _))
          | (at_builtin; refine wpList_app encS sl_strC [t] rfl _ _ rfl rfl hown2 #[S t] rfl 0 rfl (by first | rfl | (simp [go_sem]; done)) (by omega) (by simp only [maxLen]; omega) hB2.size ?_; intro g' c'' w5 hown5 hg5 hb5 hbg))
        go_roundw
        case rel => exact ⟨k + 1, ts ++ [t], _, _, by go_num, by simp, by omega, by simp; omega, hown5, hB2.trans hb5, Hsm, Hq⟩
        case measure => simp [intOf]; omega
    · have heq2 := heq.out
      have hsm2 := hsm.out
      rw [drop_end hlt] at heq2 hsm2
      have Hq : Hid (R = .ok ts) := Lib.hid heq2.symm
      have hjl : (Lib.join ts [44, 32]).length ≤ 2097152 := by
        have := join_len_le ts
        simp only [sepL] at this
        simp at hsm2
        omega
      have hrd := hown.read
      have hcap := hown.le_cap
      clear heq2 hsm2 heq hsm
      have hjn := fun w hr => w_Join ts [44, 32] A2 c2 _ w hr (Nat.le_refl _) hcap (by omega) (by omega)
      have hend : cpEnd (.ok ts) = if 20 < ts.length ∨ 1000 < (Lib.join ts [44, 32]).length then .error 2 else .ok (Lib.join ts [44, 32]) := rfl
      generalize Lib.join ts [44, 32] = j at hjl hjn hend
      by_cases h20 : 20 < ts.length
      · have He := Lib.hid (show cpEnd R = .error 2 from by rw [Hq.out, hend, if_pos (.inl h20)])
        clear hend
        go_wp2_with (go_at_call 75; refine (hjn _ hrd).mono ?_; rintro e w2 ⟨rfl, hb2⟩)
        go_ret2
        rw [He.out]
        exact ⟨rfl, hbel.trans (hb2.mono hbs)⟩
      · by_cases h1000 : 1000 < j.length
        · have He := Lib.hid (show cpEnd R = .error 2 from by rw [Hq.out, hend, if_pos (.inr h1000)])
          clear hend
          go_wp2_with (go_at_call 75; refine (hjn _ hrd).mono ?_; rintro e w2 ⟨rfl, hb2⟩)
          go_ret2
          rw [He.out]
          exact ⟨rfl, hbel.trans (hb2.mono hbs)⟩
        · have He := Lib.hid (show cpEnd R = .ok j from by rw [Hq.out, hend, if_neg (by omega)])
          clear hend
          go_wp2_with (go_at_call 75; refine (hjn _ hrd).mono ?_; rintro e w2 ⟨rfl, hb2⟩)
          go_ret2
          rw [He.out]
          exact ⟨rfl, hbel.trans (hb2.mono hbs)⟩
end Go.Proofs.YtemjoiaapfhenaaGreatDoor
end
