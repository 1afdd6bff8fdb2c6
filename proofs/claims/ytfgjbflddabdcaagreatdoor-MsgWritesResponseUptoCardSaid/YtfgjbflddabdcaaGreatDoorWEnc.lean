/- Walks: body.Encode, the reference's ChunksOf. -/
import Derived.Test.YtfgjbflddabdcaaGreatDoorWHexF
import Derived.Test.YtfgjbflddabdcaaGreatDoorWHexR
import Derived.Test.YtfgjbflddabdcaaGreatDoorWBld
import Derived.Test.YtfgjbflddabdcaaGreatDoorSpecs
import Derived.Deep.RegionWith
namespace Go.Proofs.YtfgjbflddabdcaaGreatDoor
open Go.RowKit Go.Larder
set_option linter.unusedVariables false
set_option linter.unusedSimpArgs false
theorem run_sliceH {P : Program} (t : TypeId) (ht : P.underlying t = some .string) (s : List UInt8) (hi : Int) (h0 : 0 ≤ hi) (h2 : hi ≤ s.length) (w : World) :
    (Instr.slice t (.string ⟨s.toArray⟩) none (some (.int .i64 hi)) none).run P w = .ok (S (s.take hi.toNat)) w := by
  have hsz : (⟨s.toArray⟩ : ByteArray).size = s.length := ba_size s
  simp [Instr.slice, Sem.run_bind, run_underlying ht, Instr.sliceBounds, Instr.sliceBound, asIntOf, hsz, h0, h2, Result.andThen]
  rw [ba_extract, List.drop_zero, Nat.sub_zero]
theorem chE_1 {s : List UInt8} {z : Int} (h : z < 1) : chE s z = .error 1 := by unfold chE; rw [if_pos h]
theorem chE_2 {s : List UInt8} {z : Int} (h : ¬ z < 1) (h2 : 5000 < s.length) : chE s z = .error 2 := by unfold chE; rw [if_neg h, if_pos h2]
theorem chE_ok {s : List UInt8} {z : Int} (h : ¬ z < 1) (h2 : ¬ 5000 < s.length) : chE s z = .ok (chL z s) := by unfold chE; rw [if_neg h, if_neg h2]
set_option maxHeartbeats 4000000 in
theorem w_Encode (s : List UInt8) (hs : s.length ≤ 140737488351232) (z : Int) (hz : -9223372036854775808 ≤ z ∧ z ≤ 9223372036854775807) (w : World) (hT : BT w) :
    Calls Tryz.prog 34 #[S s, .int .i64 z] w (StPost w (chE s z)) := by
  obtain ⟨hz0, hz1⟩ := hz
  by_cases h1 : z < 1
  · rw [chE_1 h1]
    go_enter Tryz.func34, Tryz.ntmps34
    go_wp2_with fail
    go_ret2
    exact ⟨rfl, Below.refl _ _⟩
  · by_cases h2 : 5000 < s.length
    · rw [chE_2 h1 h2]
      go_enter Tryz.func34, Tryz.ntmps34
      go_wp2_with fail
      go_ret2
      exact ⟨rfl, Below.refl _ _⟩
    · have Hq := Lib.hid (chE_ok h1 h2)
      go_enter Tryz.func34, Tryz.ntmps34
      go_wp2_with fail
      go_loopw [0] (fun s' wr => ∃ (acc r : List UInt8), s' = S r ∧ r.length ≤ s.length ∧ acc.length + 9 * r.length ≤ 9 * s.length ∧ BldL wr w.heap.size w.heap.size acc ∧ Below w.heap.size w wr ∧ Hid (acc ++ chL z r = chL z s)) (fun s' _ => lenOf s')
      case atStart => exact ⟨[], s, rfl, by omega, by simp, BldL.new w, (Below.refl _ _).alloc (Nat.le_refl _) _, Lib.hid rfl⟩
      case round =>
        obtain ⟨acc, r, rfl, hr, hacc, hbld, hbel, heq⟩ := hrel
        have hbs := hbel.size
        by_cases hnil : r = []
        · subst hnil
          have Hq2 := Lib.hid (show chL z s = acc ++ [48, 13, 10, 13, 10] from by rw [← heq.out, chL_nil])
          simp only [List.length_nil] at hacc
          clear heq
          go_wp2_with (first
            | (go_at_call 59; refine (w_BWrite _ _ acc _ _ hbld (by simp; omega) hbs).mono ?_; rintro e w3 ⟨rfl, hbld3, hb3⟩
               have hbs3 := Nat.le_trans hbs hb3.size)
            | (go_at_call 60; refine (w_BString _ _ _ _ hbld3 (by omega)).mono ?_; rintro e w4 ⟨rfl, hb4⟩))
          go_ret2
          rw [Hq.out, Hq2.out]
          exact ⟨by simp, (hbel.trans hb3).trans hb4⟩
        · have hc : ¬ (r = [] ∨ z < 1) := fun h => by rcases h with h | h; exact hnil h; omega
          obtain ⟨hn1, hn2⟩ := chN_pos hc
          have heq2 := heq.out
          rw [chL_step hc] at heq2
          have hmin : min z (r.length : Int) = (chN z r : Int) := by unfold chN; omega
          have hne : r.isEmpty = false := by cases r with
            | nil => exact absurd rfl hnil
            | cons _ _ => rfl
          have hfi := fun w hT => w_FormatInt (chN z r) (by omega) w hT
          have hxl := hxL_len (n := chN z r) (by omega)
          have hql : (r.take (chN z r)).length ≤ chN z r := List.length_take_le _ _
          have hrl : (r.drop (chN z r)).length = r.length - chN z r := List.length_drop
          have sl0 := fun w => run_sliceH (P := Tryz.prog) 9 Tryz.underlying9 r (chN z r : Int) (by omega) (by omega) w
          have sl1 := fun w => run_sliceT (P := Tryz.prog) 9 Tryz.underlying9 r (chN z r : Int) (by omega) (by omega) w
          rw [Int.toNat_natCast] at sl0 sl1
          have hT1 : BT wr.drew := (hT.keep hbel).drew
          have hbldd : BldL wr.drew w.heap.size w.heap.size acc := hbld
          generalize hxL (chN z r) = H at *
          generalize r.take (chN z r) = Q at *
          generalize r.drop (chN z r) = rr at *
          generalize chN z r = n at *
          obtain ⟨A1, hA1⟩ : ∃ x, H ++ [13, 10] = x := ⟨_, rfl⟩
          have lA1 : A1.length = H.length + ([13, 10] : List UInt8).length := by rw [← hA1, List.length_append]
          (try simp only [List.length_cons, List.length_nil] at lA1)
          have aA1 : ∀ w, (Op.stringOp .add ⟨H.toArray⟩ ⟨#[13, 10]⟩).run Tryz.prog w = .ok (.string ⟨A1.toArray⟩) w := fun w => by rw [← hA1]; exact run_cat (H) [13, 10] (by first | omega | (simp; omega) | simp) (by first | omega | (simp; omega) | simp) w
          obtain ⟨A2, hA2⟩ : ∃ x, A1 ++ Q = x := ⟨_, rfl⟩
          have lA2 : A2.length = A1.length + Q.length := by rw [← hA2, List.length_append]
          (try simp only [List.length_cons, List.length_nil] at lA2)
          have aA2 : ∀ w, (Op.stringOp .add ⟨A1.toArray⟩ ⟨Q.toArray⟩).run Tryz.prog w = .ok (.string ⟨A2.toArray⟩) w := fun w => by rw [← hA2]; exact run_cat (A1) Q (by first | omega | (simp; omega) | simp) (by first | omega | (simp; omega) | simp) w
          obtain ⟨A3, hA3⟩ : ∃ x, A2 ++ [13, 10] = x := ⟨_, rfl⟩
          have lA3 : A3.length = A2.length + ([13, 10] : List UInt8).length := by rw [← hA3, List.length_append]
          (try simp only [List.length_cons, List.length_nil] at lA3)
          have aA3 : ∀ w, (Op.stringOp .add ⟨A2.toArray⟩ ⟨#[13, 10]⟩).run Tryz.prog w = .ok (.string ⟨A3.toArray⟩) w := fun w => by rw [← hA3]; exact run_cat (A2) [13, 10] (by first | omega | (simp; omega) | simp) (by first | omega | (simp; omega) | simp) w
          replace lA1 := Nat.le_of_eq lA1
          replace lA2 := Nat.le_of_eq lA2
          replace lA3 := Nat.le_of_eq lA3
          have HA := Lib.hid (show H ++ [13, 10] ++ Q ++ [13, 10] = A3 from by rw [← hA3, ← hA2, ← hA1])
          have Heq := Lib.hid (show (acc ++ A3) ++ chL z rr = chL z s from by rw [← HA.out, ← heq2]; simp only [List.append_assoc])
          clear heq heq2 hA1 hA2 hA3
          have hal : (A3).length ≤ n + 8 := by omega
          have hlt : rr.length < r.length := by omega
          go_wp2_with fail
          go_region_with (first
            | (go_at_call 64; refine (hfi _ hT1).mono ?_; rintro e w2 ⟨rfl, hb2⟩; have hbld2 := hbldd.below hb2 (Nat.le_refl _); have hbel2 := hbel.drew.trans (hb2.mono hbs))
            | (go_at_call 59; refine (w_BWrite _ _ acc _ _ hbld2 (by omega) hbel2.size).mono ?_; rintro e w3 ⟨rfl, hbld3, hb3⟩))
          all_goals go_wp2_with fail
          all_goals
            go_roundw
            case rel => exact ⟨acc ++ A3, rr, rfl, by omega, by simp; omega, hbld3, hbel2.trans hb3, Heq⟩
            case measure => simp only [lenOf_S]; omega
set_option maxHeartbeats 4000000 in
theorem w_ChunksR (z : Int) (hz : 1 ≤ z ∧ z ≤ 9223372036854775807) : ∀ (f : Nat) (s : List UInt8), s.length < f → s.length ≤ 5000 → ∀ (w : World),
    Calls Tryz.prog 40 #[S s, .int .i64 z] w fun e w' => e = .returned (.tuple #[S (chL z s), .int .i64 0]) ∧ Below w.heap.size w w'
  | 0, s, h, _, w => by omega
  | f + 1, s, h, hs, w => by
    obtain ⟨hz0, hz1⟩ := hz
    by_cases hnil : s = []
    · subst hnil
      rw [chL_nil]
      clear h
      go_enter Tryz.func40, Tryz.ntmps40
      go_wp2_with fail
      go_ret2
      exact ⟨rfl, Below.refl _ _⟩
    · have hc : ¬ (s = [] ∨ z < 1) := fun h => by rcases h with h | h; exact hnil h; omega
      obtain ⟨hn1, hn2⟩ := chN_pos hc
      have Hstep := Lib.hid (chL_step hc)
      have hmin : min z (s.length : Int) = (chN z s : Int) := by unfold chN; omega
      have hne : s.isEmpty = false := by cases s with
        | nil => exact absurd rfl hnil
        | cons _ _ => rfl
      have hfi := fun w => w_hexR (chN z s + 1) (chN z s) (by omega) (by omega) w
      have ih := fun w => w_ChunksR z ⟨hz0, hz1⟩ f (s.drop (chN z s)) (by rw [List.length_drop]; omega) (by rw [List.length_drop]; omega) w
      have hrl := chL_len z 5001 (s.drop (chN z s)) (by rw [List.length_drop]; omega) (by rw [List.length_drop]; omega)
      rw [List.length_drop] at hrl
      have hxl := hxL_len (n := chN z s) (by omega)
      have hql : (s.take (chN z s)).length ≤ chN z s := List.length_take_le _ _
      have sl0 := fun w => run_sliceH (P := Tryz.prog) 9 Tryz.underlying9 s (chN z s : Int) (by omega) (by omega) w
      have sl1 := fun w => run_sliceT (P := Tryz.prog) 9 Tryz.underlying9 s (chN z s : Int) (by omega) (by omega) w
      rw [Int.toNat_natCast] at sl0 sl1
      generalize hxL (chN z s) = H at *
      generalize s.take (chN z s) = Q at *
      generalize s.drop (chN z s) = rr at *
      generalize chL z rr = R at *
      generalize chN z s = n at *
      obtain ⟨A1, hA1⟩ : ∃ x, H ++ [13, 10] = x := ⟨_, rfl⟩
      have lA1 : A1.length = H.length + ([13, 10] : List UInt8).length := by rw [← hA1, List.length_append]
      (try simp only [List.length_cons, List.length_nil] at lA1)
      have aA1 : ∀ w, (Op.stringOp .add ⟨H.toArray⟩ ⟨#[13, 10]⟩).run Tryz.prog w = .ok (.string ⟨A1.toArray⟩) w := fun w => by rw [← hA1]; exact run_cat (H) [13, 10] (by first | omega | (simp; omega) | simp) (by first | omega | (simp; omega) | simp) w
      obtain ⟨A2, hA2⟩ : ∃ x, A1 ++ Q = x := ⟨_, rfl⟩
      have lA2 : A2.length = A1.length + Q.length := by rw [← hA2, List.length_append]
      (try simp only [List.length_cons, List.length_nil] at lA2)
      have aA2 : ∀ w, (Op.stringOp .add ⟨A1.toArray⟩ ⟨Q.toArray⟩).run Tryz.prog w = .ok (.string ⟨A2.toArray⟩) w := fun w => by rw [← hA2]; exact run_cat (A1) Q (by first | omega | (simp; omega) | simp) (by first | omega | (simp; omega) | simp) w
      obtain ⟨A3, hA3⟩ : ∃ x, A2 ++ [13, 10] = x := ⟨_, rfl⟩
      have lA3 : A3.length = A2.length + ([13, 10] : List UInt8).length := by rw [← hA3, List.length_append]
      (try simp only [List.length_cons, List.length_nil] at lA3)
      have aA3 : ∀ w, (Op.stringOp .add ⟨A2.toArray⟩ ⟨#[13, 10]⟩).run Tryz.prog w = .ok (.string ⟨A3.toArray⟩) w := fun w => by rw [← hA3]; exact run_cat (A2) [13, 10] (by first | omega | (simp; omega) | simp) (by first | omega | (simp; omega) | simp) w
      obtain ⟨A4, hA4⟩ : ∃ x, A3 ++ R = x := ⟨_, rfl⟩
      have lA4 : A4.length = A3.length + R.length := by rw [← hA4, List.length_append]
      (try simp only [List.length_cons, List.length_nil] at lA4)
      have aA4 : ∀ w, (Op.stringOp .add ⟨A3.toArray⟩ ⟨R.toArray⟩).run Tryz.prog w = .ok (.string ⟨A4.toArray⟩) w := fun w => by rw [← hA4]; exact run_cat (A3) R (by first | omega | (simp; omega) | simp) (by first | omega | (simp; omega) | simp) w
      replace lA1 := Nat.le_of_eq lA1
      replace lA2 := Nat.le_of_eq lA2
      replace lA3 := Nat.le_of_eq lA3
      replace lA4 := Nat.le_of_eq lA4
      have HA := Lib.hid (show chL z s = A4 from by rw [Hstep.out, ← hA4, ← hA3, ← hA2, ← hA1])
      clear hA1 hA2 hA3 hA4 h hc
      go_enter Tryz.func40, Tryz.ntmps40
      go_wp2_with fail
      refine (ih _).mono ?_
      rintro e w1 ⟨rfl, hb1⟩
      go_wp2_with fail
      go_region_with (go_at_call 71; refine (hfi _).mono ?_; rintro e w' ⟨rfl, rfl⟩)
      all_goals go_wp2_with fail
      all_goals
        go_ret2
        rw [HA.out]
        exact ⟨rfl, hb1.drew⟩
theorem w_ChunksOf (s : List UInt8) (hs : s.length ≤ 140737488351232) (z : Int) (hz : -9223372036854775808 ≤ z ∧ z ≤ 9223372036854775807) (w : World) :
    Calls Tryz.prog 40 #[S s, .int .i64 z] w (StPost w (chE s z)) := by
  obtain ⟨hz0, hz1⟩ := hz
  by_cases h1 : z < 1
  · rw [chE_1 h1]
    go_enter Tryz.func40, Tryz.ntmps40
    go_wp2_with fail
    go_ret2
    exact ⟨rfl, Below.refl _ _⟩
  · by_cases h2 : 5000 < s.length
    · rw [chE_2 h1 h2]
      go_enter Tryz.func40, Tryz.ntmps40
      go_wp2_with fail
      go_ret2
      exact ⟨rfl, Below.refl _ _⟩
    · rw [chE_ok h1 h2]
      exact w_ChunksR z (by omega) (s.length + 1) s (by omega) (by omega) w
end Go.Proofs.YtfgjbflddabdcaaGreatDoor
