/- Walks: the reference's desk: ranges. -/
import Derived.Test.YtemjoiaapfhenaaGreatDoorWDkT
import Derived.Test.YtemjoiaapfhenaaGreatDoorWSpqR
import Derived.Test.YtemjoiaapfhenaaGreatDoorWSpanR
namespace Go.Proofs.YtemjoiaapfhenaaGreatDoor
open Go.RowKit Go.Larder
set_option linter.unusedVariables false
set_option linter.unusedSimpArgs false
theorem dig_at (n : Int) (h0 : 0 ≤ n) (h1 : n ≤ 1000000000000000000) (W : World) : Calls Tryz.prog 10 #[.int .i64 n] W fun e w' => e = .returned (S (itL n.toNat)) ∧ Below W.heap.size W w' := w_Dig n h0 (by omega) W
set_option maxHeartbeats 8000000 in
set_option maxRecDepth 100000 in
theorem w_rrange (s t : Txd) (hs : s.length ≤ 1000) (ht : t.length ≤ 1000) (A : Option Addr) (c : Nat) (w : World) (hr : ReadL encS w w.heap.size A [s, t]) (hD : DrW w) : Calls Tryz.prog 9 #[S wd_range, .slice A 2 c] w (RfOut w (rangeE s t)) := by
  obtain ⟨g, off, rfl, hg, hc0⟩ := hr.at_S (k := 0) rfl
  obtain ⟨g', off', hA, hg', hc1⟩ := hr.at_S (k := 1) rfl
  obtain ⟨rfl, rfl⟩ : g = g' ∧ off = off' := by injection hA with hA; injection hA with h1 h2; exact ⟨h1, h2⟩
  rw [Nat.add_zero] at hc0
  have hHas := has_at wd_range w
  rw [show (wsD.any fun y => wd_range == y) = true from by decide] at hHas
  have hB0 : Below w.heap.size w (w.alloc (.cells litD 9)) := (Below.refl _ _).alloc (Nat.le_refl _) _
  have hc0a : (w.alloc (.cells litD 9)).cell? ⟨g, off, none⟩ = some (S s) := (hB0.cell hg).trans hc0
  have hc1a : (w.alloc (.cells litD 9)).cell? ⟨g, off + 1, none⟩ = some (S t) := (hB0.cell hg).trans hc1
  have hD0 := hD.keep hB0
  have htr := fun W => w_truthD true W
  have hq := w_count t (by omega) 4611686018427387904 (by omega)
  obtain ⟨R, hR⟩ : ∃ R, rangeE s t = R := ⟨_, rfl⟩
  rw [hR]
  unfold rangeE bindE numE at hR
  have hbd18 := cnt_top (t := t)
  unfold topN at hbd18
  have HAS := hHas
  by_cases hneg : cnt t 4611686018427387904 < 0
  · rw [if_pos hneg] at hR
    simp only at hR
    subst hR
    clear hbd18
    generalize cnt t 4611686018427387904 = n at *
    go_enter Tryz.func9, Tryz.ntmps9
    go_wp2_with (first
      | (go_at_call 16; refine hHas.mono ?_; rintro e w1 ⟨rfl, rfl⟩)
      | (go_at_call 17; refine (htr _).mono ?_; rintro e w1 ⟨rfl, rfl⟩)
      | (go_at_call 23; refine (hq _).mono ?_; rintro e w2 ⟨rfl, hw2⟩; subst hw2))
    go_ret2
    exact ⟨⟨_, rfl⟩, hB0⟩
  · rw [if_neg hneg] at hR
    simp only at hR
    obtain ⟨_, _, hs0, hs1⟩ := hbd18 hneg
    clear hbd18
    generalize cnt t 4611686018427387904 = size at *
    have hsp := w_SParseR s (by omega) (w.alloc (.cells litD 9)) hD0.1
    cases hS : spnE s with
    | error n =>
      have hne := spnE_ne hS
      have hnI : (n != 0) = true := by simpa using hne
      have hsp2 := hsp.mono fun e w' h => SlPost.err h hS
      rw [hS] at hR
      simp only at hR
      subst hR
      clear hsp
      go_enter Tryz.func9, Tryz.ntmps9
      go_wp2_with (first
        | (go_at_call 16; refine hHas.mono ?_; rintro e w1 ⟨rfl, rfl⟩)
        | (go_at_call 17; refine (htr _).mono ?_; rintro e w1 ⟨rfl, rfl⟩)
        | (go_at_call 23; refine (hq _).mono ?_; rintro e w2 ⟨rfl, hw2⟩; subst hw2)
        | (go_at_call 34; refine hsp2.mono ?_; rintro e w3 ⟨rfl, hb3⟩))
      go_ret2
      exact ⟨⟨_, rfl⟩, hB0.trans (hb3.mono hB0.size)⟩
    | ok want =>
      have hsp2 := hsp.mono fun e w' h => SlPost.ok_ h hS
      have hwl : want.length ≤ 20 := spnE_len hS
      rw [hS] at hR
      simp only at hR
      clear hsp
      cases hV : spanRes want size with
      | error n =>
        have hne := spanRes_ne hV
        rw [hV] at hR
        simp only at hR
        subst hR
        go_enter Tryz.func9, Tryz.ntmps9
        go_wp2_with (first
          | (go_at_call 16; refine hHas.mono ?_; rintro e w1 ⟨rfl, rfl⟩)
          | (go_at_call 17; refine (htr _).mono ?_; rintro e w1 ⟨rfl, rfl⟩)
          | (go_at_call 23; refine (hq _).mono ?_; rintro e w2 ⟨rfl, hw2⟩; subst hw2)
          | (go_at_call 34; refine hsp2.mono ?_; rintro e w3 ⟨A3, c3, rfl, ho3, hb3⟩; have hrs := (w_ResolveR want size (by omega) (by omega) A3 c3 w3 ho3.read).mono fun e w' h => SlPost.err h hV)
          | (go_at_call 35; refine hrs.mono ?_; rintro e w5 ⟨rfl, hb5⟩))
        have hB3 := hB0.trans (hb3.mono hB0.size)
        have hB5 := hB3.trans (hb5.mono hB3.size)
        have hli : Calls Tryz.prog 21 #[.slice none 0 0, .int .i64 n] w5 _ := w_rlisted [] n none 0 w5 (fun h => absurd h (by simp)) (by simp) (by simp) (by simp)
        go_loopw [20, 155] (fun o i' wr => i' = .int .i64 0 ∧ o = .slice none 0 0 ∧ wr = w5) (fun _ i' _ => 1)
        case atStart => exact ⟨rfl, rfl, rfl⟩
        case round =>
          obtain ⟨rfl, rfl, rfl⟩ := hrel
          go_wp2_with (go_at_call 21; refine hli.mono ?_; rintro e w6 ⟨rfl, hb6⟩)
          go_ret2
          exact ⟨⟨_, rfl⟩, hB5.trans (hb6.mono hB5.size)⟩
      | ok some_ =>
        have hvl : some_.length ≤ 20 := spanRes_len hV
        have hbd := spanRes_bd hV
        rw [hV] at hR
        simp only at hR
        have HR := Lib.hid hR
        clear hR
        go_enter Tryz.func9, Tryz.ntmps9
        go_wp2_with (first
          | (go_at_call 16; refine hHas.mono ?_; rintro e w1 ⟨rfl, rfl⟩)
          | (go_at_call 17; refine (htr _).mono ?_; rintro e w1 ⟨rfl, rfl⟩)
          | (go_at_call 23; refine (hq _).mono ?_; rintro e w2 ⟨rfl, hw2⟩; subst hw2)
          | (go_at_call 34; refine hsp2.mono ?_; rintro e w3 ⟨A3, c3, rfl, ho3, hb3⟩; have hrs := (w_ResolveR want size (by omega) (by omega) A3 c3 w3 ho3.read).mono fun e w' h => SlPost.ok_ h hV)
          | (go_at_call 35; refine hrs.mono ?_; rintro e w5 ⟨A5, c5, rfl, ho5, hb5⟩))
        have hB3 := hB0.trans (hb3.mono hB0.size)
        have hB5 := hB3.trans (hb5.mono hB3.size)
        have hrd := ho5.read
        clear hc0 hc1 hc0a hc1a hsp2 hrs HAS hHas
        go_loopw [20, 155] (fun o i' wr => ∃ (k : Nat) (out : List Txd) (A2 : Option Addr) (c2 : Nat), i' = .int .i64 k ∧ o = .slice A2 out.length c2 ∧ k ≤ some_.length ∧ out.length ≤ k ∧ OwnL encS wr w5.heap.size 9 A2 c2 out ∧ Below w5.heap.size w5 wr ∧ Hid (out = (some_.take k).map slotT)) (fun _ i' _ => some_.length - (intOf i').toNat)
        case atStart => exact ⟨0, [], none, 0, rfl, rfl, by omega, by simp, OwnL.nil _ _ _, Below.refl _ _, Lib.hid rfl⟩
        case round =>
          obtain ⟨k, out, A2, c2, rfl, rfl, hk, hok, hown, hbel, Ho⟩ := hrel
          have hbs := hbel.size
          by_cases hlt : k < some_.length
          · obtain ⟨⟨a, b⟩, hx, _⟩ := drop_step hlt
            obtain ⟨ha0, ha1, hb0, hb1⟩ := hbd _ (List.mem_of_getElem? hx)
            simp only at ha0 ha1 hb0 hb1
            obtain ⟨gx, ox, rfl, hgx, hx0, hx1⟩ := (hrd.below hbel (Nat.le_refl _)).at_II hx
            have hsn := slotT_snoc hx
            have hsl := slotT_len (x := (a, b)) ⟨ha0, by omega, hb0, by omega⟩
            have hta : slotT (a, b) = itL a.toNat ++ [45] ++ itL b.toNat := rfl
            have hi1 := fun W => dig_at a ha0 (by omega) W
            have hi2 := fun W => dig_at b hb0 (by omega) W
            have hla := itL_len (n := a.toNat) (by omega)
            have hlb := itL_len (n := b.toNat) (by omega)
            simp only at hx0 hx1
            rw [hta] at hsn
            generalize itL a.toNat = ta at hi1 hla hsn
            generalize itL b.toNat = tb at hi2 hlb hsn
            obtain ⟨A1, hA1⟩ : ∃ x, ta ++ [45] = x := ⟨_, rfl⟩
            have lA1 : A1.length = ta.length + ([45] : List UInt8).length := by rw [← hA1, List.length_append]
            (try simp only [List.length_cons, List.length_nil] at lA1)
            have aA1 : ∀ w, (Op.stringOp .add ⟨ta.toArray⟩ ⟨#[45]⟩).run Tryz.prog w = .ok (.string ⟨A1.toArray⟩) w := fun w => by rw [← hA1]; exact run_cat (ta) [45] (by first | omega | (simp; omega) | simp) (by first | omega | (simp; omega) | simp) w
            obtain ⟨TT, hA2⟩ : ∃ x, A1 ++ tb = x := ⟨_, rfl⟩
            have lA2 : TT.length = A1.length + tb.length := by rw [← hA2, List.length_append]
            (try simp only [List.length_cons, List.length_nil] at lA2)
            have aA2 : ∀ w, (Op.stringOp .add ⟨A1.toArray⟩ ⟨tb.toArray⟩).run Tryz.prog w = .ok (.string ⟨TT.toArray⟩) w := fun w => by rw [← hA2]; exact run_cat (A1) tb (by first | omega | (simp; omega) | simp) (by first | omega | (simp; omega) | simp) w
            replace lA1 := Nat.le_of_eq lA1
            replace lA2 := Nat.le_of_eq lA2
            rw [hA1, hA2] at hsn
            have Hsn := Lib.hid hsn
            clear hsn hx hta hsl hA1 hA2
            have hbA : Below wr.heap.size wr (wr.alloc (.cells #[.int .i64 a, .int .i64 b] 70)) := (Below.refl _ _).alloc (Nat.le_refl _) _
            have bxa := BoxAt.new wr [.int .i64 a, .int .i64 b] 70
            have c20 := bxa.drew.cell (j := 0) rfl
            have c21 := bxa.drew.cell (j := 1) rfl
            go_wp2_with fail
            go_region_law (first
              | (go_simp; go_at_call 10; (with_reducible refine Calls.mono (hi1 _) ?_); rintro e w6 ⟨rfl, hb6⟩; have bx6 := bxa.drew.keep hb6; have q0 := bx6.cell (j := 0) rfl; have q1 := bx6.cell (j := 1) rfl)
              | (go_simp; go_at_call 10; (with_reducible refine Calls.mono (hi2 _) ?_); rintro e w7 ⟨rfl, hb7⟩; have bx7 := bx6.keep hb7; have r0 := bx7.cell (j := 0) rfl; have r1 := bx7.cell (j := 1) rfl; have hB7 : Below w5.heap.size w5 w7 := ((hbel.alloc hbs (.cells #[.int .i64 a, .int .i64 b] 70)).drew.trans (hb6.mono (by show w5.heap.size ≤ (wr.alloc _).heap.size; simp; omega))).trans (hb7.mono (by have := ((hbel.alloc hbs (.cells #[.int .i64 a, .int .i64 b] 70)).drew.trans (hb6.mono (by show w5.heap.size ≤ (wr.alloc _).heap.size; simp; omega))).size; exact this)); have hown7 : OwnL encS w7 w5.heap.size 9 A2 c2 out := (((hown.alloc (.cells #[.int .i64 a, .int .i64 b] 70)).drew).below hb6 (Nat.le_refl _)).below hb7 (Nat.le_refl _); have hlit : OwnL encS (w7.alloc (.cells #[S TT] 9)) w5.heap.size 9 (some ⟨w7.heap.size, 0, none⟩) 1 [TT] := own_lit (E := encS) w7 w5.heap.size 9 #[S TT] [TT] rfl hB7.size (by simp [maxLen]))
              | (refine step_app_atn (base := w5.heap.size) encS sl_strDk [TT] rfl _ _ (by rfl) (l := out) (by rfl) (by exact hown7.alloc _) (by rfl) (by exact hlit.read) rfl rfl (by simp; omega) (by simp [maxLen]; omega) (by simp; exact Nat.le_succ_of_le hB7.size) ?_; intro A8 c8 w8 ho8 hg8 hb8))
            all_goals
              go_wp2_with fail
              go_roundw
              case rel => exact ⟨k + 1, out ++ [TT], A8, c8, by go_num, by simp, by omega, by simp; omega, ho8, (hB7.alloc hB7.size _).trans hb8, Lib.hid (by rw [Hsn.out, ← Ho.out])⟩
              case measure => simp [intOf]; omega
          · obtain rfl : k = some_.length := by omega
            have ho := Ho.out
            rw [List.take_length] at ho
            have hrd2 := hown.read
            have hcap := hown.le_cap
            have hli := w_rlisted out 0 A2 c2 wr hrd2 (by omega) (by
              rw [ho]
              intro x hx
              obtain ⟨y, hy, rfl⟩ := List.mem_map.1 hx
              obtain ⟨h1, h2, h3, h4⟩ := hbd _ hy
              have := slotT_len (x := y) ⟨h1, by omega, h3, by omega⟩
              omega) hcap
            have Hq := Lib.hid (show R = .ok (listL out) from by rw [← HR.out, ho])
            clear ho HR
            go_wp2_with (go_at_call 21; refine hli.mono ?_; rintro e w6 ⟨rfl, hb6⟩)
            go_ret2
            rw [Hq.out]
            exact ⟨rfl, hB5.trans ((hbel.trans (hb6.mono hbs)).mono hB5.size)⟩
end Go.Proofs.YtemjoiaapfhenaaGreatDoor
