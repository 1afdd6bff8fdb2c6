/- WDkR, WQuoR -/
import Derived.Test.YtemjoiaapfhenaaGreatDoorGd06
import Derived.Test.YtemjoiaapfhenaaGreatDoorGd04
import Derived.Test.YtemjoiaapfhenaaGreatDoorGd07
import Derived.Test.YtemjoiaapfhenaaGreatDoorShelf

/- WDkR -/
section
namespace Go.Proofs.YtemjoiaapfhenaaGreatDoor
open Go.RowKit Go.Larder
set_option linter.unusedVariables false
set_option linter.unusedSimpArgs false
set_option maxHeartbeats 4000000 in
theorem w_rsizes (l : List Txd) (hl : l.length ≤ 5000) (hs : ∀ x ∈ l, x.length ≤ 5000) (A : Option Addr) (c : Nat) (w : World) (hr : ReadL encS w w.heap.size A l) :
    Calls Tryz.prog 22 #[.slice A l.length c] w fun e w' => (∃ A2 c2, e = .returned (.slice A2 (sizesL l).length c2) ∧ OwnL encS w' w.heap.size 9 A2 c2 (sizesL l)) ∧ Below w.heap.size w w' := by
  go_enter Tryz.func22, Tryz.ntmps22
  go_wp2_with fail
  go_loopw [3, 8] (fun o i' wr => ∃ (k : Nat) (out : List Txd) (A2 : Option Addr) (c2 : Nat), i' = .int .i64 k ∧ o = .slice A2 out.length c2 ∧ k ≤ l.length ∧ out.length ≤ k ∧ OwnL encS wr w.heap.size 9 A2 c2 out ∧ Below w.heap.size w wr ∧ Hid (out = sizesL (l.take k))) (fun _ i' _ => l.length - (intOf i').toNat)
  case atStart => exact ⟨0, [], none, 0, rfl, rfl, by omega, by simp, OwnL.nil _ _ _, Below.refl _ _, Lib.hid rfl⟩
  case round =>
    obtain ⟨k, out, A2, c2, rfl, rfl, hk, hok, hown, hbel, Ho⟩ := hrel
    have hbs := hbel.size
    by_cases hlt : k < l.length
    · obtain ⟨x, hx, _⟩ := drop_step hlt
      have hx5 := hs x (List.mem_of_getElem? hx)
      obtain ⟨g, off, rfl, hgb, hc0⟩ := (hr.below hbel (Nat.le_refl _)).at_S hx
      have Hsn := Lib.hid (sizes_snoc hx)
      have hit := fun W => w_Dig (x.length : Int) (by omega) (by omega) W
      simp only [Int.toNat_natCast] at hit
      have hi20 := itL_len (n := x.length) (by omega)
      have hit2 : ∀ W, Calls Tryz.prog 10 #[.int .i64 (x.length : Int)] W fun e w' => e = .returned (S (itL x.length)) ∧ Below W.heap.size W w' := hit
      clear hit hx
      generalize itL x.length = I at *
      go_wp2_with (first
        | (go_at_call 10; refine (hit2 _).mono ?_; rintro e w2 ⟨rfl, hb2⟩; have hB2 := hbel.trans (hb2.mono hbs); have hown2 := hown.below hb2 (Nat.le_refl _))
        | (at_builtin; refine wpList_app encS sl_strDk [_] rfl _ _ rfl rfl hown2 #[S _] rfl 0 rfl (by first | rfl | (simp [go_sem]; done)) (by omega) (by simp only [maxLen]; omega) hB2.size ?_; intro g' c'' w5 hown5 hg5 hb5 hbg))
      go_roundw
      case rel => exact ⟨k + 1, _, _, _, by go_num, by simp, by omega, by simp; omega, hown5, hB2.trans hb5, Lib.hid (by rw [Hsn.out, ← Ho.out])⟩
      case measure => simp [intOf]; omega
    · obtain rfl : k = l.length := by omega
      have ho := Ho.out
      rw [List.take_length] at ho
      have Hq := Lib.hid ho
      clear ho Ho
      go_wp2_with fail
      go_ret
      rw [← Hq.out]
      exact ⟨⟨A2, c2, rfl, hown⟩, hbel⟩
theorem w_rlisted (l : List Txd) (n : Int) (A : Option Addr) (c : Nat) (w : World) (hr : ReadL encS w w.heap.size A l) (hl : l.length ≤ 5000) (hs : ∀ x ∈ l, x.length ≤ 1000) (hc : l.length ≤ c) :
    Calls Tryz.prog 21 #[.slice A l.length c, .int .i64 n] w fun e w' => e = .returned (.tuple #[S (listL l), .int .i64 n]) ∧ Below w.heap.size w w' := by
  unfold listL
  by_cases h0 : l.length = 0
  · rw [if_pos h0]
    obtain rfl : l = [] := List.eq_nil_of_length_eq_zero h0
    go_enter Tryz.func21, Tryz.ntmps21
    go_wp2_with fail
    go_ret2
    exact ⟨rfl, Below.refl _ _⟩
  · rw [if_neg h0]
    have hE : ((l.length : Int) == 0) = false := by simp only [beq_eq_false_iff_ne]; omega
    have hj : (Lib.join l [32]).length ≤ 140737488355328 := by
      have := join_lenG [32] 1000 l hs
      simp only [List.length_cons, List.length_nil] at this
      omega
    go_enter Tryz.func21, Tryz.ntmps21
    go_wp2_with (go_at_call 75; refine (w_Join l [32] A c _ _ hr (Nat.le_refl _) hc (by omega) hj).mono ?_; rintro e w2 ⟨rfl, hb2⟩)
    go_ret2
    exact ⟨rfl, hb2⟩
theorem w_rdprint (n : Int) (w : World) : Calls Tryz.prog 24 #[.int .i64 n] w (StPost w (dprE n)) := by
  by_cases h : n < 0 ∨ 253402300799 < n
  · rw [dprE_no h]
    exact (w_DatePrint_out n h w).mono fun e w' ⟨he, hw⟩ => ⟨he, hw ▸ Below.refl _ _⟩
  · obtain ⟨y, m, r, hc⟩ := civil_exists (n / 86400).toNat
    rw [show (((n / 86400).toNat : Nat) : Int) = n / 86400 from by omega] at hc
    rw [dprE_yes ⟨y, m, r, hc, by omega, by omega, rfl⟩]
    exact w_DatePrint n y r m hc (by omega) (by omega) w
end Go.Proofs.YtemjoiaapfhenaaGreatDoor
end

/- WQuoR -/
section
namespace Go.Proofs.YtemjoiaapfhenaaGreatDoor
open Go.RowKit Go.Larder
set_option linter.unusedVariables false
set_option linter.unusedSimpArgs false

theorem q_dat (v : List UInt8) : (⟨v.toArray⟩ : ByteArray).data.toList = v := by simp
theorem w_Repl (s old new : List UInt8) (m : Int) (w : World) (hs : s.length ≤ 10000) (hm : w.cell? ⟨1, 0, none⟩ = some (.int .i64 m)) (h1 : 1 ≤ old.length) (hn : new.length ≤ 10) :
    Calls Tryz.prog 73 #[S s, S old, S new] w fun e w' => e = .returned (S (Lib.replaceAll s old new)) ∧ Below w.heap.size w w' := by
  have hc : Lib.countB ⟨s.toArray⟩ ⟨old.toArray⟩ ≤ s.length + 1 := by
    show Lib.count (⟨s.toArray⟩ : ByteArray).data.toList (⟨old.toArray⟩ : ByteArray).data.toList ≤ _
    rw [q_dat, q_dat]
    exact Lib.count_le s old
  have hc2 : Lib.countB ⟨s.toArray⟩ ⟨old.toArray⟩ * (⟨new.toArray⟩ : ByteArray).size ≤ 10001 * 10 := Nat.mul_le_mul (by omega) (by rw [ba_size]; exact hn)
  have h := Tryz.strings_ReplaceAll ⟨s.toArray⟩ ⟨old.toArray⟩ ⟨new.toArray⟩ m w (by rw [ba_size]; omega) hm (by rw [ba_size]; exact h1) (by rw [ba_size]; omega)
  rw [q_dat, q_dat, q_dat] at h
  exact h
theorem rep_len (s : List UInt8) : (Lib.replaceAll s [92] [92, 92]).length ≤ 2 * s.length := by
  rw [repl_one _ _ _ (by decide)]
  induction s with
  | nil => simp
  | cons a s ih =>
    rw [List.flatMap_cons, List.length_append]
    split <;> simp at * <;> omega

set_option maxHeartbeats 1000000 in
theorem w_QuoteR (l : List UInt8) (hl : l.length ≤ 140737488351232) (m : Int) (w : World) (hm : w.cell? ⟨1, 0, none⟩ = some (.int .i64 m)) :
    Calls Tryz.prog 18 #[S l] w (StPost w (quoE l)) := by
  by_cases hbig : 1000 < l.length
  · rw [quoE_big hbig]
    go_enter Tryz.func18, Tryz.ntmps18
    go_wp2_with fail
    go_ret2
    exact ⟨rfl, Below.refl _ _⟩
  · cases hp : l.all isPl
    · rw [quoE_bad hbig hp]
      go_enter Tryz.func18, Tryz.ntmps18
      go_wp2_with (go_at_call 72; refine (q_plainR l hl _).mono ?_; rintro e w' ⟨rfl, rfl⟩)
      go_ret2
      exact ⟨rfl, Below.refl _ _⟩
    · rw [quoE_ok hbig hp]
      have hr1 := w_Repl l [92] [92, 92] m w (by omega) hm (by simp) (by simp)
      have hlen1 := rep_len l
      have hqr := quo_rep l
      have hql := quoL_len l
      have hlt : 1 < w.heap.size := by
        rcases Nat.lt_or_ge 1 w.heap.size with h | h
        · exact h
        · simp [World.cell?, Array.getElem?_eq_none h] at hm
      generalize Lib.replaceAll l [92] [92, 92] = s1 at hr1 hlen1 hqr
      generalize quoL l = q at hql hqr ⊢
      go_enter Tryz.func18, Tryz.ntmps18
      go_wp2_with (first
        | (go_at_call 72; refine (q_plainR l hl _).mono ?_; rintro e w' ⟨rfl, rfl⟩)
        | fail)
      refine hr1.mono ?_
      rintro e w1 ⟨rfl, hb1⟩
      have hm1 : w1.cell? ⟨1, 0, none⟩ = some (.int .i64 m) := (hb1.cell (p := ⟨1, 0, none⟩) hlt).trans hm
      have hr2 := w_Repl s1 [34] [92, 34] m w1 (by omega) hm1 (by simp) (by simp)
      rw [hqr] at hr2
      go_wp2_with fail
      refine hr2.mono ?_
      rintro e w2 ⟨rfl, hb2⟩
      go_wp2_with fail
      go_ret2
      exact ⟨by simp, hb1.trans (hb2.mono hb1.size)⟩
end Go.Proofs.YtemjoiaapfhenaaGreatDoor
end
