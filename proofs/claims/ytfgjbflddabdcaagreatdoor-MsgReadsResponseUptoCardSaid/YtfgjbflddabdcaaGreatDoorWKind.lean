/- Walk: body.Kind. -/
import Derived.Test.YtfgjbflddabdcaaGreatDoorWSize
import Derived.Test.YtfgjbflddabdcaaGreatDoorWGetS
import Derived.Test.YtfgjbflddabdcaaGreatDoorWLow
namespace Go.Proofs.YtfgjbflddabdcaaGreatDoor
open Go.RowKit Go.Larder
set_option linter.unusedVariables false
set_option linter.unusedSimpArgs false
theorem nb_cases (req : Bool) (m : List UInt8) (code : Int) : (noBody req m code = true ∧ req = false ∧ ((m == headL) = true ∨ ((m == headL) = false ∧ (code < 200 ∨ (¬ code < 200 ∧ ((code == 204) = true ∨ ((code == 204) = false ∧ (code == 304) = true)))))))
    ∨ (noBody req m code = false ∧ (req = true ∨ (req = false ∧ (m == headL) = false ∧ ¬ code < 200 ∧ (code == 204) = false ∧ (code == 304) = false))) := by
  unfold noBody
  cases req <;> cases (m == headL) <;> cases (code == 204) <;> cases (code == 304) <;> by_cases h : code < 200 <;> simp [h]
set_option maxHeartbeats 4000000 in
set_option maxRecDepth 100000 in
theorem w_Kind (req : Bool) (m : List UInt8) (code : Int) (l : List Fld) (hj : (l.map (fun f => f.1.length + f.2.length + 3)).sum ≤ 1048576) (A : Option Addr) (c : Nat) (w : World) (hr : ReadL encF w w.heap.size A l) (hE : EV w) (hP : PW w) :
    Calls Tryz.prog 33 #[.bool req, S m, .int .i64 code, .slice A l.length c] w fun e w' => e = .returned (.tuple #[.int .i64 (kindE req m code l).1, .int .i64 (kindE req m code l).2.1, .int .i64 (kindE req m code l).2.2]) ∧ Below w.heap.size w w' := by
  have hgt := fun W hrW => w_GetS teN (by decide) l hj A c W hrW
  have hgl := fun W hrW => w_GetS clN (by decide) l hj A c W hrW
  skip
  have hjt := join_ok (nm := lowL teN) hj
  have hjl := join_ok (nm := lowL clN) hj
  unfold kindE
  generalize Lib.join (valsL (lowL teN) l) sepL = vt at *
  generalize Lib.join (valsL (lowL clN) l) sepL = vl at *
  generalize (!(valsL (lowL teN) l).isEmpty) = coded at *
  generalize (!(valsL (lowL clN) l).isEmpty) = sized at *
  have hsz := fun W hE hP => w_size vl (by omega) W hE hP
  have hlo := fun W => w_Lower vt (by omega) W
  obtain ⟨K, hK⟩ : ∃ K, kindI req (noBody req m code) coded sized (lowL vt == chkL) (sizeB vl) = K := ⟨_, rfl⟩
  rw [hK]
  have hc9 : (lowL vt == [99, 104, 117, 110, 107, 101, 100]) = (lowL vt == chkL) := rfl
  generalize (lowL vt == chkL) = chk at *
  generalize lowL vt = lv at *
  generalize sizeB vl = sz at *
  obtain ⟨z1, z2⟩ := sz
  have HK := Lib.hid hK
  clear hK
  go_enter Tryz.func33, Tryz.ntmps33
  go_wp2_with fail
  refine (hgt _ hr).mono ?_
  rintro e w1 ⟨rfl, hb1⟩
  go_wp2_with fail
  refine (hgl _ ((hr.below hb1 (Nat.le_refl _)).more hb1.size)).mono ?_
  rintro e w2 ⟨rfl, hb2⟩
  have hbw2 := hb1.trans (hb2.mono hb1.size)
  have hE2 := hE.keep hbw2
  have hP2 := hP.keep hbw2
  clear hgt hgl hr hE hP hb1 hb2 hj
  rcases nb_cases req m code with ⟨hnb, rfl, h⟩ | ⟨hnb, h⟩
  · have HK2 := Lib.hid (show K = (1, 0, 0) from by rw [← HK.out, hnb]; simp [kindI])
    clear hnb HK hsz hlo hc9
    rcases h with h1 | ⟨h1, h2 | ⟨h2, h3 | ⟨h3, h4⟩⟩⟩
    · have c1 : m = [72, 69, 65, 68] := by simpa [headL] using h1
      subst c1
      clear h1
      go_wp2_with fail
      go_ret3
      rw [HK2.out]
      exact ⟨rfl, hbw2⟩
    all_goals
      have c1 : (m == [72, 69, 65, 68]) = false := h1
      clear h1
      try have c2 : decide (code < 200) = true := decide_eq_true (by assumption)
      try have c2 : decide (code < 200) = false := decide_eq_false (by assumption)
      go_wp2_with fail
      go_ret3
      rw [HK2.out]
      exact ⟨rfl, hbw2⟩
  · have HK2 := Lib.hid (show kindI req false coded sized chk (z1, z2) = K from by rw [← hnb]; exact HK.out)
    clear HK hnb
    rcases h with rfl | ⟨rfl, h1, h2, h3, h4⟩
    · skip
      cases coded
      · cases sized
        · have HK3 := Lib.hid (show K = (1, 0, 0) from by rw [← HK2.out]; simp [kindI])
          clear HK2
          go_wp2_with fail
          go_ret3
          rw [HK3.out]
          exact ⟨rfl, hbw2⟩
        · by_cases hz : z2 = 0
          · subst hz
            have HK3 := Lib.hid (show K = (2, z1, 0) from by rw [← HK2.out]; simp [kindI])
            clear HK2
            go_wp2_with fail
            refine (hsz _ hE2 hP2).mono ?_
            rintro e w3 ⟨rfl, hb3⟩
            have hbw3 := hbw2.trans (hb3.mono hbw2.size)
            go_wp2_with fail
            go_ret3
            rw [HK3.out]
            exact ⟨rfl, hbw3⟩
          · have hzb : (z2 == 0) = false := by simpa using hz
            have HK3 := Lib.hid (show K = (0, 0, z2) from by rw [← HK2.out]; simp [kindI, hz])
            clear HK2
            go_wp2_with fail
            refine (hsz _ hE2 hP2).mono ?_
            rintro e w3 ⟨rfl, hb3⟩
            have hbw3 := hbw2.trans (hb3.mono hbw2.size)
            go_wp2_with fail
            go_ret3
            rw [HK3.out]
            exact ⟨rfl, hbw3⟩
      · cases sized
        · cases chk
          · have HK3 := Lib.hid (show K = (0, 0, 10) from by rw [← HK2.out]; simp [kindI])
            clear HK2
            go_wp2_with (go_at_call 62; refine (hlo _).mono ?_; rintro e w3 ⟨rfl, hb3⟩)
            go_ret3
            rw [HK3.out]
            exact ⟨rfl, hbw2.trans (hb3.mono hbw2.size)⟩
          · have HK3 := Lib.hid (show K = (3, 0, 0) from by rw [← HK2.out]; simp [kindI])
            clear HK2
            go_wp2_with (go_at_call 62; refine (hlo _).mono ?_; rintro e w3 ⟨rfl, hb3⟩)
            go_ret3
            rw [HK3.out]
            exact ⟨rfl, hbw2.trans (hb3.mono hbw2.size)⟩
        · have HK3 := Lib.hid (show K = (0, 0, 10) from by rw [← HK2.out]; simp [kindI])
          clear HK2
          go_wp2_with fail
          go_ret3
          rw [HK3.out]
          exact ⟨rfl, hbw2⟩
    · have c1 : (m == [72, 69, 65, 68]) = false := h1
      have c2 : decide (code < 200) = false := decide_eq_false h2
      clear h1
      cases coded
      · cases sized
        · have HK3 := Lib.hid (show K = (4, 0, 0) from by rw [← HK2.out]; simp [kindI])
          clear HK2
          go_wp2_with fail
          go_ret3
          rw [HK3.out]
          exact ⟨rfl, hbw2⟩
        · by_cases hz : z2 = 0
          · subst hz
            have HK3 := Lib.hid (show K = (2, z1, 0) from by rw [← HK2.out]; simp [kindI])
            clear HK2
            go_wp2_with fail
            refine (hsz _ hE2 hP2).mono ?_
            rintro e w3 ⟨rfl, hb3⟩
            have hbw3 := hbw2.trans (hb3.mono hbw2.size)
            go_wp2_with fail
            go_ret3
            rw [HK3.out]
            exact ⟨rfl, hbw3⟩
          · have hzb : (z2 == 0) = false := by simpa using hz
            have HK3 := Lib.hid (show K = (0, 0, z2) from by rw [← HK2.out]; simp [kindI, hz])
            clear HK2
            go_wp2_with fail
            refine (hsz _ hE2 hP2).mono ?_
            rintro e w3 ⟨rfl, hb3⟩
            have hbw3 := hbw2.trans (hb3.mono hbw2.size)
            go_wp2_with fail
            go_ret3
            rw [HK3.out]
            exact ⟨rfl, hbw3⟩
      · cases sized
        · cases chk
          · have HK3 := Lib.hid (show K = (0, 0, 10) from by rw [← HK2.out]; simp [kindI])
            clear HK2
            go_wp2_with (go_at_call 62; refine (hlo _).mono ?_; rintro e w3 ⟨rfl, hb3⟩)
            go_ret3
            rw [HK3.out]
            exact ⟨rfl, hbw2.trans (hb3.mono hbw2.size)⟩
          · have HK3 := Lib.hid (show K = (3, 0, 0) from by rw [← HK2.out]; simp [kindI])
            clear HK2
            go_wp2_with (go_at_call 62; refine (hlo _).mono ?_; rintro e w3 ⟨rfl, hb3⟩)
            go_ret3
            rw [HK3.out]
            exact ⟨rfl, hbw2.trans (hb3.mono hbw2.size)⟩
        · have HK3 := Lib.hid (show K = (0, 0, 10) from by rw [← HK2.out]; simp [kindI])
          clear HK2
          go_wp2_with fail
          go_ret3
          rw [HK3.out]
          exact ⟨rfl, hbw2⟩
end Go.Proofs.YtfgjbflddabdcaaGreatDoor
