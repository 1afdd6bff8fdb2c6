/- Walk: larderref.message. -/
import Derived.Test.YtfgjbflddabdcaaGreatDoorWMsgW
namespace Go.Proofs.YtfgjbflddabdcaaGreatDoor
open Go.RowKit Go.Larder
set_option linter.unusedVariables false
set_option linter.unusedSimpArgs false
set_option maxHeartbeats 8000000 in
set_option maxRecDepth 100000 in
theorem w_message (first : List UInt8) (hf : first.length ≤ 3000000) (req : Bool) (m : List UInt8) (code : Int) (l : List Fld) (hj : (l.map (fun f => f.1.length + f.2.length + 3)).sum ≤ 1048576) (A : Option Addr) (c : Nat) (text : List UInt8) (ht : text.length ≤ 1048576) (w : World) (hr : ReadL encF w w.heap.size A l) :
    Calls Tryz.prog 20 #[S first, .bool req, S m, .int .i64 code, .slice A l.length c, S text] w (StPost w (msgE (checkE l) (prL l) (kindE req m code l) first text)) := by
  obtain ⟨hx, hl⟩ := flds_of hj
  have hfp := w_FPrintR l hx hl A c _ hr
  have hkd := fun W hrW => w_KindR req m code l hj A c W hrW
  clear hj
  by_cases hck : checkE l = 0
  · have hhl : (prL l).length ≤ 31022 := by
      obtain ⟨q1, q2⟩ := checkE_zero hck
      exact prL_len l q1 q2
    rw [prE_ok hck] at hfp
    rw [hck]
    have hkc := kindE_cases req m code l
    generalize kindE req m code l = K at *
    generalize prL l = hd at *
    clear hck hx hl
    obtain ⟨k1, k2, k3⟩ := K
    simp only at hkd hkc
    obtain ⟨R, hR⟩ : ∃ R, msgE 0 hd (k1, k2, k3) first text = R := ⟨_, rfl⟩
    rw [hR]
    have HR := Lib.hid hR
    clear hR
    go_enter Tryz.func20, Tryz.ntmps20
    go_wp2_with fail
    refine hfp.mono ?_
    rintro e w1 ⟨rfl, hb1⟩
    have hk1 := hkd _ ((hr.below hb1 (Nat.le_refl _)).more hb1.size)
    clear hfp hkd hr
    go_wp2_with fail
    refine hk1.mono ?_
    rintro e w2 ⟨rfl, hb2⟩
    have hB2 := hb1.trans (hb2.mono hb1.size)
    clear hk1 hb2 hb1
    rcases hkc with h | h | ⟨n, n0, n1, h⟩ | h | h
    · have hz : (k3 == 0) = false := by simpa using h
      have HE := Lib.hid (show R = .error k3 from by rw [← HR.out]; exact msgE_k h)
      clear h HR
      go_wp2_with fail
      go_ret2
      rw [HE.out]
      exact ⟨rfl, hB2⟩
    all_goals
      injection h with e1 e2
      injection e2 with e2 e3
      subst e1 e2 e3
    · by_cases hte : text = []
      · subst hte
        obtain ⟨B, hB⟩ : ∃ x, first ++ hd = x := ⟨_, rfl⟩
        have lB : B.length ≤ 3031022 := by rw [← hB, List.length_append]; omega
        have a1 : ∀ w, (Op.stringOp .add ⟨first.toArray⟩ ⟨hd.toArray⟩).run Tryz.prog w = .ok (.string ⟨B.toArray⟩) w := fun w => by rw [← hB]; exact run_cat first hd (by omega) (by omega) w
        have HE := Lib.hid (show R = .ok B from by rw [← HR.out, msgE_1, if_pos rfl, hB])
        clear HR hB
        go_wp2_with fail
        go_ret2
        rw [HE.out]
        exact ⟨by simp, hB2⟩
      · have hne : text.isEmpty = false := by cases text with
          | nil => exact absurd rfl hte
          | cons _ _ => rfl
        have HE := Lib.hid (show R = .error 10 from by rw [← HR.out, msgE_1, if_neg hte])
        clear HR
        go_wp2_with fail
        go_ret2
        rw [HE.out]
        exact ⟨rfl, hB2⟩
    · by_cases hte : (text.length : Int) = k2
      · have hte2 : ((text.length : Int) == k2) = true := by simp [hte]
        obtain ⟨B, hB⟩ : ∃ x, first ++ hd = x := ⟨_, rfl⟩
        have lB : B.length ≤ 3031022 := by rw [← hB, List.length_append]; omega
        have a1 : ∀ w, (Op.stringOp .add ⟨first.toArray⟩ ⟨hd.toArray⟩).run Tryz.prog w = .ok (.string ⟨B.toArray⟩) w := fun w => by rw [← hB]; exact run_cat first hd (by omega) (by omega) w
        have a2 : ∀ w, (Op.stringOp .add ⟨B.toArray⟩ ⟨text.toArray⟩).run Tryz.prog w = .ok (.string ⟨(B ++ text).toArray⟩) w := fun w => run_cat B text (by omega) (by omega) w
        have HE := Lib.hid (show R = .ok (B ++ text) from by rw [← HR.out, msgE_2, if_pos hte, hB])
        clear HR hB hte
        go_wp2_with fail
        go_ret2
        rw [HE.out]
        exact ⟨rfl, hB2⟩
      · have hte2 : ((text.length : Int) == k2) = false := by simp [hte]
        have HE := Lib.hid (show R = .error 10 from by rw [← HR.out, msgE_2, if_neg hte])
        clear HR hte
        go_wp2_with fail
        go_ret2
        rw [HE.out]
        exact ⟨rfl, hB2⟩
    · by_cases hte : 5000 < text.length
      · have HE := Lib.hid (show R = .error 2 from by rw [← HR.out, msgE_3, if_pos hte])
        clear HR
        go_wp2_with fail
        go_ret2
        rw [HE.out]
        exact ⟨rfl, hB2⟩
      · have hcl := chL_len 64 (text.length + 1) text (by omega) (by omega)
        have hen := fun W  => w_ChunksOf text (by omega) 64 (by omega) W
        rw [chE_ok (by omega) hte] at hen
        obtain ⟨B, hB⟩ : ∃ x, first ++ hd = x := ⟨_, rfl⟩
        have lB : B.length ≤ 3031022 := by rw [← hB, List.length_append]; omega
        have a1 : ∀ w, (Op.stringOp .add ⟨first.toArray⟩ ⟨hd.toArray⟩).run Tryz.prog w = .ok (.string ⟨B.toArray⟩) w := fun w => by rw [← hB]; exact run_cat first hd (by omega) (by omega) w
        have HE := Lib.hid (show R = .ok (B ++ chL 64 text) from by rw [← HR.out, msgE_3, if_neg hte, hB])
        generalize chL 64 text = ct at *
        have a2 : ∀ w, (Op.stringOp .add ⟨B.toArray⟩ ⟨ct.toArray⟩).run Tryz.prog w = .ok (.string ⟨(B ++ ct).toArray⟩) w := fun w => run_cat B ct (by omega) (by omega) w
        clear HR hB
        go_wp2_with fail
        refine (hen _).mono ?_
        rintro e w3 ⟨rfl, hb3⟩
        go_wp2_with fail
        go_ret2
        rw [HE.out]
        exact ⟨rfl, hB2.trans (hb3.mono hB2.size)⟩
    · by_cases hte : 5000 < text.length
      · have HE := Lib.hid (show R = .error 2 from by rw [← HR.out, msgE_4, if_pos hte])
        clear HR
        go_wp2_with fail
        go_ret2
        rw [HE.out]
        exact ⟨rfl, hB2⟩
      · skip
        obtain ⟨B, hB⟩ : ∃ x, first ++ hd = x := ⟨_, rfl⟩
        have lB : B.length ≤ 3031022 := by rw [← hB, List.length_append]; omega
        have a1 : ∀ w, (Op.stringOp .add ⟨first.toArray⟩ ⟨hd.toArray⟩).run Tryz.prog w = .ok (.string ⟨B.toArray⟩) w := fun w => by rw [← hB]; exact run_cat first hd (by omega) (by omega) w
        have a2 : ∀ w, (Op.stringOp .add ⟨B.toArray⟩ ⟨text.toArray⟩).run Tryz.prog w = .ok (.string ⟨(B ++ text).toArray⟩) w := fun w => run_cat B text (by omega) (by omega) w
        have HE := Lib.hid (show R = .ok (B ++ text) from by rw [← HR.out, msgE_4, if_neg hte, hB])
        clear HR hB
        go_wp2_with fail
        go_ret2
        rw [HE.out]
        exact ⟨rfl, hB2⟩
  · rw [prE_bad hck] at hfp
    rw [msgE_ck hck]
    generalize checkE l = ck at *
    have hz : (ck == 0) = false := by simp [hck]
    clear hck hkd
    go_enter Tryz.func20, Tryz.ntmps20
    go_wp2_with fail
    refine hfp.mono ?_
    rintro e w1 ⟨rfl, hb1⟩
    go_wp2_with fail
    go_ret2
    exact ⟨rfl, hb1⟩
end Go.Proofs.YtfgjbflddabdcaaGreatDoor
