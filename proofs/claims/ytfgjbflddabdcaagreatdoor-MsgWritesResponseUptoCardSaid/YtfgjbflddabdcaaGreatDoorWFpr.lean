/- Walks: fields, printed: the program's, the reference's. -/
import Derived.Test.YtfgjbflddabdcaaGreatDoorWFc2
import Derived.Test.YtfgjbflddabdcaaGreatDoorWBld
import Derived.Test.YtfgjbflddabdcaaGreatDoorSpecs
namespace Go.Proofs.YtfgjbflddabdcaaGreatDoor
open Go.RowKit Go.Larder
set_option linter.unusedVariables false
set_option linter.unusedSimpArgs false

def prE (l : List Fl) : Except Int (List UInt8) := if checkE l = 0 then .ok (prL l) else .error (checkE l)
theorem prE_ok {l : List Fl} (h : checkE l = 0) : prE l = .ok (prL l) := if_pos h
theorem prE_bad {l : List Fl} (h : ¬ checkE l = 0) : prE l = .error (checkE l) := if_neg h
theorem checkF_zero {n v : List UInt8} (h : checkF n v = 0) : isTok n = true ∧ n.length ≤ 30 ∧ v.length ≤ 1000 ∧ trim v = v ∧ v.all isPl = true := by
  unfold checkF at h
  split at h
  · next ht =>
    split at h
    · omega
    · next hb =>
      split at h
      · next h1 => exact ⟨ht, by omega, by omega, h1.1, h1.2⟩
      · omega
  · omega
theorem checkAll_zero : ∀ {l : List Fl}, checkAll l = 0 → ∀ f ∈ l, checkF f.1 f.2 = 0
  | [], _, f, hf => by simp at hf
  | a :: l, h, f, hf => by
    unfold checkAll at h
    split at h
    · contradiction
    · next h0 =>
      rcases List.mem_cons.1 hf with rfl | hf
      · simpa using h0
      · exact checkAll_zero h f hf
theorem checkE_zero {l : List Fl} (h : checkE l = 0) : l.length ≤ 30 ∧ ∀ f ∈ l, f.1.length ≤ 30 ∧ f.2.length ≤ 1000 := by
  unfold checkE at h
  split at h
  · omega
  · refine ⟨by omega, fun f hf => ?_⟩
    have := checkF_zero (checkAll_zero h f hf)
    exact ⟨this.2.1, this.2.2.1⟩

set_option maxHeartbeats 2000000 in
theorem w_FPrint (l : List Fl) (hx : ∀ f ∈ l, f.1.length ≤ 140737488351232 ∧ f.2.length ≤ 140737488351232) (hl : l.length ≤ 140737488351232) (A : Option Addr) (c : Nat) (w : World) (hr : ReadL encF w w.heap.size A l) :
    Calls Tryz.prog 32 #[.slice A l.length c] w (StPost w (prE l)) := by
  have hch := w_Check l hx hl A c w hr
  cases hz : (checkE l == 0)
  · have hz1 : ¬ checkE l = 0 := by simpa using hz
    rw [prE_bad hz1]
    generalize checkE l = n at hch hz
    clear hz1
    go_enter Tryz.func32, Tryz.ntmps32
    go_wp2_with (go_at_call 58; refine hch.mono ?_; rintro e w1 ⟨rfl, hb1⟩)
    go_ret2
    exact ⟨rfl, hb1⟩
  · have hz1 : checkE l = 0 := by simpa using hz
    rw [prE_ok hz1]
    rw [hz1] at hch
    obtain ⟨hl30, hfx⟩ := checkE_zero hz1
    clear hz hz1
    go_enter Tryz.func32, Tryz.ntmps32
    go_wp2_with (go_at_call 58; refine hch.mono ?_; rintro e w1 ⟨rfl, hb1⟩)
    go_loopw [15] (fun i' wr => ∃ (k : Nat) (acc : List UInt8), i' = .int .i64 k ∧ k ≤ l.length ∧ BldL wr w1.heap.size w1.heap.size acc ∧ Below w1.heap.size w1 wr ∧ acc.length ≤ 1034 * k ∧ Hid (acc ++ (l.drop k).flatMap prF = l.flatMap prF)) (fun i' _ => l.length - (intOf i').toNat)
    case atStart => exact ⟨0, [], rfl, by omega, BldL.new w1, (Below.refl _ _).alloc (Nat.le_refl _) _, by simp, Lib.hid rfl⟩
    case round =>
      obtain ⟨k, acc, rfl, hk, hbld, hbel, hacc, heq⟩ := hrel
      have hbs := hbel.size
      have hbelw := hb1.trans (hbel.mono hb1.size)
      by_cases hlt : k < l.length
      · obtain ⟨⟨n, y⟩, hfx2, hs⟩ := drop_step hlt
        have hxl := hfx _ (List.mem_of_getElem? hfx2)
        obtain ⟨g, off, rfl, hgb, hc0, hc1⟩ := (hr.below hbelw (Nat.le_refl _)).at_F hfx2
        have Heq := Lib.hid (show (acc ++ prF (n, y)) ++ (l.drop (k + 1)).flatMap prF = l.flatMap prF from by rw [← heq.out, hs, List.flatMap_cons, List.append_assoc])
        have hpl := prF_len (n, y)
        simp only at hxl hpl
        have hpl2 : (prF (n, y)).length ≤ 1034 := by omega
        clear hs hfx2 hpl
        have hbA : Below wr.heap.size wr (wr.alloc (.cells #[S n, S y] 55)) := (Below.refl _ _).alloc (Nat.le_refl _) _
        have hbld2 := hbld.below hbA (Nat.le_refl _)
        have hbel2 := hbel.trans (hbA.mono hbs)
        go_wp2_with (go_at_call 59; refine (w_BWrite _ _ acc _ _ hbld2 (by simp; omega) hbel2.size).mono ?_; rintro e w3 ⟨rfl, hbld3, hb3⟩)
        go_roundw
        case rel => exact ⟨k + 1, _, by go_num, by omega, hbld3, hbel2.trans hb3, by simp; omega, Lib.hid (by have := Heq.out; simpa [prF] using this)⟩
        case measure => simp [intOf]; omega
      · obtain rfl : k = l.length := by omega
        have Heq : acc = l.flatMap prF := by have := heq.out; rw [List.drop_length, List.flatMap_nil, List.append_nil] at this; exact this
        have Hq := Lib.hid (show prL l = acc ++ [13, 10] from by rw [Heq]; rfl)
        clear Heq
        go_wp2_with (first
          | (go_at_call 59; refine (w_BWrite _ _ acc [13, 10] _ hbld (by simp; omega) hbs).mono ?_; rintro e w3 ⟨rfl, hbld3, hb3⟩
             have hbs3 := Nat.le_trans hbs hb3.size)
          | (go_at_call 60; refine (w_BString _ _ (acc ++ [13, 10]) _ hbld3 (by omega)).mono ?_; rintro e w4 ⟨rfl, hb4⟩))
        go_ret2
        rw [Hq.out]
        exact ⟨rfl, hbelw.trans ((hb3.mono hb1.size).trans (hb4.mono (by have := hb3.size; have := hb1.size; omega)))⟩

set_option maxHeartbeats 2000000 in
theorem w_FPrintR (l : List Fl) (hx : ∀ f ∈ l, f.1.length ≤ 140737488351232 ∧ f.2.length ≤ 140737488351232) (hl : l.length ≤ 140737488351232) (A : Option Addr) (c : Nat) (w : World) (hr : ReadL encF w w.heap.size A l) :
    Calls Tryz.prog 38 #[.slice A l.length c] w (StPost w (prE l)) := by
  have hch := w_CheckR l hx hl A c w hr
  cases hz : (checkE l == 0)
  · have hz1 : ¬ checkE l = 0 := by simpa using hz
    rw [prE_bad hz1]
    generalize checkE l = n at hch hz
    clear hz1
    go_enter Tryz.func38, Tryz.ntmps38
    go_wp2_with (go_at_call 67; refine hch.mono ?_; rintro e w1 ⟨rfl, hb1⟩)
    go_ret2
    exact ⟨rfl, hb1⟩
  · have hz1 : checkE l = 0 := by simpa using hz
    rw [prE_ok hz1]
    rw [hz1] at hch
    obtain ⟨hl30, hfx⟩ := checkE_zero hz1
    clear hz hz1
    go_enter Tryz.func38, Tryz.ntmps38
    go_wp2_with (go_at_call 67; refine hch.mono ?_; rintro e w1 ⟨rfl, hb1⟩)
    go_loopw [5, 15] (fun o i' wr => ∃ (k : Nat) (acc : List UInt8), i' = .int .i64 k ∧ o = S acc ∧ k ≤ l.length ∧ Below w.heap.size w wr ∧ acc.length ≤ 1034 * k ∧ Hid (acc ++ (l.drop k).flatMap prF = l.flatMap prF)) (fun _ i' _ => l.length - (intOf i').toNat)
    case atStart => exact ⟨0, [], rfl, rfl, by omega, hb1, by simp, Lib.hid rfl⟩
    case round =>
      obtain ⟨k, acc, rfl, rfl, hk, hbel, hacc, heq⟩ := hrel
      have hbs := hbel.size
      by_cases hlt : k < l.length
      · obtain ⟨⟨n, y⟩, hfx2, hs⟩ := drop_step hlt
        have hxl := hfx _ (List.mem_of_getElem? hfx2)
        obtain ⟨g, off, rfl, hgb, hc0, hc1⟩ := (hr.below hbel (Nat.le_refl _)).at_F hfx2
        have Heq := Lib.hid (show (acc ++ prF (n, y)) ++ (l.drop (k + 1)).flatMap prF = l.flatMap prF from by rw [← heq.out, hs, List.flatMap_cons, List.append_assoc])
        have hpl := prF_len (n, y)
        simp only at hxl hpl
        have hpl2 : (prF (n, y)).length ≤ 1034 := by omega
        clear hs hfx2 hpl
        go_wp2_with fail
        go_roundw
        case rel => exact ⟨k + 1, acc ++ prF (n, y), by go_num, by simp [prF], by omega, hbel.alloc hbs _, by simp; omega, Heq⟩
        case measure => simp [intOf]; omega
      · obtain rfl : k = l.length := by omega
        have Heq : acc = l.flatMap prF := by have := heq.out; rw [List.drop_length, List.flatMap_nil, List.append_nil] at this; exact this
        have Hq := Lib.hid (show prL l = acc ++ [13, 10] from by rw [Heq]; rfl)
        clear Heq
        go_wp2_with fail
        go_ret2
        rw [Hq.out]
        exact ⟨rfl, hbel⟩
end Go.Proofs.YtfgjbflddabdcaaGreatDoor
