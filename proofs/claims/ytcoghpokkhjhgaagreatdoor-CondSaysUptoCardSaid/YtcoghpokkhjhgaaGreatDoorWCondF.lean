/- Walk: the reference's Eval. -/
import Derived.Test.YtcoghpokkhjhgaaGreatDoorWCondR
namespace Go.Proofs.YtcoghpokkhjhgaaGreatDoor
open Go.RowKit Go.Larder
set_option linter.unusedVariables false
set_option linter.unusedSimpArgs false
set_option maxHeartbeats 8000000 in
set_option maxRecDepth 100000 in
theorem w_EvalR (m : List UInt8) (hm : m.length ≤ 140737488351232) (l : List Fld) (hj : (l.map (fun f => f.1.length + f.2.length + 3)).sum ≤ 1048576) (A : Option Addr) (c : Nat) (there : Bool) (tag : List UInt8) (htag : tag.length ≤ 140737488351232) (md : Int) (w : World) (hr : ReadL encF w w.heap.size A l) (hM : ML w) (tagged : Bool) (o : Tg) (ho : parseTR tag = if tagged then some o else none) (ho2 : tagged = false → o = (false, [])) :
    Calls Tryz.prog 6 #[S m, .slice A l.length c, .bool there, S tag, .int .i64 md] w fun e w' => e = .returned (.int .i64 (evalI (rdsB m) (meetsE ifmN l there tagged (metStrong o)).1 (meetsE ifmN l there tagged (metStrong o)).2 (sinceE iusN l there md).2 (sinceE iusN l there md).1 (meetsE inmN l there tagged (metWeak o)).1 (meetsE inmN l there tagged (metWeak o)).2 (sinceE imsN l there md).2 (sinceE imsN l there md).1 md)) ∧ Below w.heap.size w w' := by
  have ht1 := fun W hrW => w_meetsR false ifmN (by decide) l hj A c there tag htag W hrW tagged o ho ho2
  have ht2 := fun W hrW => w_meetsR true inmN (by decide) l hj A c there tag htag W hrW tagged o ho ho2
  rw [metOf_strong] at ht1
  rw [metOf_weak] at ht2
  have hs1 := fun W hrW hMW => w_dateOfR iusN (by decide) l hj A c W hrW hMW
  have hs2 := fun W hrW hMW => w_dateOfR imsN (by decide) l hj A c W hrW hMW
  clear ho ho2
  unfold sinceE
  generalize meetsE ifmN l there tagged (metStrong o) = q1 at *
  generalize meetsE inmN l there tagged (metWeak o) = q2 at *
  generalize toldE iusN l = q3 at *
  generalize toldE imsN l = q4 at *
  obtain ⟨i1, m1⟩ := q1
  obtain ⟨i2, m2⟩ := q2
  obtain ⟨n1, h1⟩ := q3
  obtain ⟨n2, h2⟩ := q4
  simp only at ht1 ht2 hs1 hs2 ⊢
  obtain ⟨kn, hkn⟩ : ∃ kn, (there && decide (0 ≤ md)) = kn := ⟨_, rfl⟩
  obtain ⟨U, hU⟩ : ∃ U, evalI (rdsB m) i1 m1 (h1 && kn) n1 i2 m2 (h2 && kn) n2 md = U := ⟨_, rfl⟩
  rw [show (h1 && there && decide (0 ≤ md)) = (h1 && kn) from by rw [Bool.and_assoc, hkn], show (h2 && there && decide (0 ≤ md)) = (h2 && kn) from by rw [Bool.and_assoc, hkn], hU]
  have HU := Lib.hid hU
  have Hkn := Lib.hid hkn
  clear hU hkn hj
  go_enter Tryz.func6, Tryz.ntmps6
  go_upto_region 1 with fail
  go_cut [11] (fun s' wx => s' = .bool (rdsB m) ∧ w = wx)
  case first =>
    clear HU ht1 ht2 hs1 hs2
    cases hg : (m == [71, 69, 84])
    · cases hh : (m == [72, 69, 65, 68])
      · go_wp2_with fail
        go_meet
        case rel => exact ⟨by simp [rdsB, hg, hh], rfl⟩
      · have hm2 : m = [72, 69, 65, 68] := by simpa using hh
        subst hm2
        go_wp2_with fail
        go_meet
        case rel => exact ⟨rfl, rfl⟩
    · have hm2 : m = [71, 69, 84] := by simpa using hg
      subst hm2
      go_wp2_with fail
      go_meet
      case rel => exact ⟨rfl, rfl⟩
  case rest =>
    obtain ⟨hs14, rfl⟩ := hcut
    generalize rdsB m = rd at *
    subst hs14
    go_upto_region 2 with fail
    go_cut [12] (fun s' wx => s' = .bool kn ∧ w = wx)
    case first =>
      clear HU ht1 ht2 hs1 hs2
      cases there
      · go_wp2_with fail
        go_meet
        case rel => exact ⟨by have := Hkn.out; simp at this; simp [this], rfl⟩
      · cases hmd : decide (0 ≤ md)
        all_goals
          go_wp2_with fail
          go_meet
          case rel => exact ⟨by have := Hkn.out; rw [hmd] at this; simp at this; simp [this], rfl⟩
    case rest =>
      obtain ⟨hs12, rfl⟩ := hcut
      subst hs12
      have hBw3 := Below.refl w.heap.size w
      have hrw3 := hr
      have hMw3 := hM
      clear hr hM Hkn
      go_wp2_with fail
      refine (ht1 _ hrw3).mono ?_
      rintro e w4 ⟨rfl, hbw4⟩
      have hBw4 := hBw3.trans (hbw4.mono hBw3.size)
      have hrw4 := (hrw3.below hbw4 (Nat.le_refl _)).more hbw4.size
      have hMw4 := hMw3.keep hbw4
      clear hbw4 hBw3 hrw3 hMw3
      cases i1
      · go_wp2_with fail
        refine (hs1 _ hrw4 hMw4).mono ?_
        rintro e w5 ⟨rfl, hbw5⟩
        have hBw5 := hBw4.trans (hbw5.mono hBw4.size)
        have hrw5 := (hrw4.below hbw5 (Nat.le_refl _)).more hbw5.size
        have hMw5 := hMw4.keep hbw5
        clear hbw5 hBw4 hrw4 hMw4
        cases h1
        · go_wp2_with fail
          refine (ht2 _ hrw5).mono ?_
          rintro e w6 ⟨rfl, hbw6⟩
          have hBw6 := hBw5.trans (hbw6.mono hBw5.size)
          have hrw6 := (hrw5.below hbw6 (Nat.le_refl _)).more hbw6.size
          have hMw6 := hMw5.keep hbw6
          clear hbw6 hBw5 hrw5 hMw5
          cases i2
          · go_wp2_with fail
            refine (hs2 _ hrw6 hMw6).mono ?_
            rintro e w7 ⟨rfl, hbw7⟩
            have hBw7 := hBw6.trans (hbw7.mono hBw6.size)
            have hrw7 := (hrw6.below hbw7 (Nat.le_refl _)).more hbw7.size
            have hMw7 := hMw6.keep hbw7
            clear hbw7 hBw6 hrw6 hMw6
            cases h2
            · have HU2 := Lib.hid (show U = 0 from by rw [← HU.out]; simp [evalI, *])
              clear HU
              go_wp2_with fail
              go_ret
              rw [HU2.out]
              exact ⟨rfl, hBw7⟩
            · cases kn
              · have HU2 := Lib.hid (show U = 0 from by rw [← HU.out]; simp [evalI, *])
                clear HU
                go_wp2_with fail
                go_ret
                rw [HU2.out]
                exact ⟨rfl, hBw7⟩
              · cases rd
                · have HU2 := Lib.hid (show U = 0 from by rw [← HU.out]; simp [evalI, *])
                  clear HU
                  go_wp2_with fail
                  go_ret
                  rw [HU2.out]
                  exact ⟨rfl, hBw7⟩
                · cases hc2 : decide (md ≤ n2)
                  · have HU2 := Lib.hid (show U = 0 from by rw [← HU.out]; simp [evalI, *])
                    clear HU
                    go_wp2_with fail
                    go_ret
                    rw [HU2.out]
                    exact ⟨rfl, hBw7⟩
                  · have HU2 := Lib.hid (show U = 304 from by rw [← HU.out]; simp [evalI, *])
                    clear HU
                    go_wp2_with fail
                    go_ret
                    rw [HU2.out]
                    exact ⟨rfl, hBw7⟩
          · cases m2
            · go_wp2_with fail
              refine (hs2 _ hrw6 hMw6).mono ?_
              rintro e w7 ⟨rfl, hbw7⟩
              have hBw7 := hBw6.trans (hbw7.mono hBw6.size)
              have hrw7 := (hrw6.below hbw7 (Nat.le_refl _)).more hbw7.size
              have hMw7 := hMw6.keep hbw7
              clear hbw7 hBw6 hrw6 hMw6
              have HU2 := Lib.hid (show U = 0 from by rw [← HU.out]; simp [evalI, *])
              clear HU
              go_wp2_with fail
              go_ret
              rw [HU2.out]
              exact ⟨rfl, hBw7⟩
            · cases rd
              · have HU2 := Lib.hid (show U = 412 from by rw [← HU.out]; simp [evalI, *])
                clear HU
                go_wp2_with fail
                go_ret
                rw [HU2.out]
                exact ⟨rfl, hBw6⟩
              · have HU2 := Lib.hid (show U = 304 from by rw [← HU.out]; simp [evalI, *])
                clear HU
                go_wp2_with fail
                go_ret
                rw [HU2.out]
                exact ⟨rfl, hBw6⟩
        · cases kn
          · go_wp2_with fail
            refine (ht2 _ hrw5).mono ?_
            rintro e w6 ⟨rfl, hbw6⟩
            have hBw6 := hBw5.trans (hbw6.mono hBw5.size)
            have hrw6 := (hrw5.below hbw6 (Nat.le_refl _)).more hbw6.size
            have hMw6 := hMw5.keep hbw6
            clear hbw6 hBw5 hrw5 hMw5
            cases i2
            · go_wp2_with fail
              refine (hs2 _ hrw6 hMw6).mono ?_
              rintro e w7 ⟨rfl, hbw7⟩
              have hBw7 := hBw6.trans (hbw7.mono hBw6.size)
              have hrw7 := (hrw6.below hbw7 (Nat.le_refl _)).more hbw7.size
              have hMw7 := hMw6.keep hbw7
              clear hbw7 hBw6 hrw6 hMw6
              cases h2
              · have HU2 := Lib.hid (show U = 0 from by rw [← HU.out]; simp [evalI, *])
                clear HU
                go_wp2_with fail
                go_ret
                rw [HU2.out]
                exact ⟨rfl, hBw7⟩
              · have HU2 := Lib.hid (show U = 0 from by rw [← HU.out]; simp [evalI, *])
                clear HU
                go_wp2_with fail
                go_ret
                rw [HU2.out]
                exact ⟨rfl, hBw7⟩
            · cases m2
              · go_wp2_with fail
                refine (hs2 _ hrw6 hMw6).mono ?_
                rintro e w7 ⟨rfl, hbw7⟩
                have hBw7 := hBw6.trans (hbw7.mono hBw6.size)
                have hrw7 := (hrw6.below hbw7 (Nat.le_refl _)).more hbw7.size
                have hMw7 := hMw6.keep hbw7
                clear hbw7 hBw6 hrw6 hMw6
                have HU2 := Lib.hid (show U = 0 from by rw [← HU.out]; simp [evalI, *])
                clear HU
                go_wp2_with fail
                go_ret
                rw [HU2.out]
                exact ⟨rfl, hBw7⟩
              · cases rd
                · have HU2 := Lib.hid (show U = 412 from by rw [← HU.out]; simp [evalI, *])
                  clear HU
                  go_wp2_with fail
                  go_ret
                  rw [HU2.out]
                  exact ⟨rfl, hBw6⟩
                · have HU2 := Lib.hid (show U = 304 from by rw [← HU.out]; simp [evalI, *])
                  clear HU
                  go_wp2_with fail
                  go_ret
                  rw [HU2.out]
                  exact ⟨rfl, hBw6⟩
          · cases hc1 : decide (n1 < md)
            · go_wp2_with fail
              refine (ht2 _ hrw5).mono ?_
              rintro e w6 ⟨rfl, hbw6⟩
              have hBw6 := hBw5.trans (hbw6.mono hBw5.size)
              have hrw6 := (hrw5.below hbw6 (Nat.le_refl _)).more hbw6.size
              have hMw6 := hMw5.keep hbw6
              clear hbw6 hBw5 hrw5 hMw5
              cases i2
              · go_wp2_with fail
                refine (hs2 _ hrw6 hMw6).mono ?_
                rintro e w7 ⟨rfl, hbw7⟩
                have hBw7 := hBw6.trans (hbw7.mono hBw6.size)
                have hrw7 := (hrw6.below hbw7 (Nat.le_refl _)).more hbw7.size
                have hMw7 := hMw6.keep hbw7
                clear hbw7 hBw6 hrw6 hMw6
                cases h2
                · have HU2 := Lib.hid (show U = 0 from by rw [← HU.out]; simp [evalI, *])
                  clear HU
                  go_wp2_with fail
                  go_ret
                  rw [HU2.out]
                  exact ⟨rfl, hBw7⟩
                · cases rd
                  · have HU2 := Lib.hid (show U = 0 from by rw [← HU.out]; simp [evalI, *])
                    clear HU
                    go_wp2_with fail
                    go_ret
                    rw [HU2.out]
                    exact ⟨rfl, hBw7⟩
                  · cases hc2 : decide (md ≤ n2)
                    · have HU2 := Lib.hid (show U = 0 from by rw [← HU.out]; simp [evalI, *])
                      clear HU
                      go_wp2_with fail
                      go_ret
                      rw [HU2.out]
                      exact ⟨rfl, hBw7⟩
                    · have HU2 := Lib.hid (show U = 304 from by rw [← HU.out]; simp [evalI, *])
                      clear HU
                      go_wp2_with fail
                      go_ret
                      rw [HU2.out]
                      exact ⟨rfl, hBw7⟩
              · cases m2
                · go_wp2_with fail
                  refine (hs2 _ hrw6 hMw6).mono ?_
                  rintro e w7 ⟨rfl, hbw7⟩
                  have hBw7 := hBw6.trans (hbw7.mono hBw6.size)
                  have hrw7 := (hrw6.below hbw7 (Nat.le_refl _)).more hbw7.size
                  have hMw7 := hMw6.keep hbw7
                  clear hbw7 hBw6 hrw6 hMw6
                  have HU2 := Lib.hid (show U = 0 from by rw [← HU.out]; simp [evalI, *])
                  clear HU
                  go_wp2_with fail
                  go_ret
                  rw [HU2.out]
                  exact ⟨rfl, hBw7⟩
                · cases rd
                  · have HU2 := Lib.hid (show U = 412 from by rw [← HU.out]; simp [evalI, *])
                    clear HU
                    go_wp2_with fail
                    go_ret
                    rw [HU2.out]
                    exact ⟨rfl, hBw6⟩
                  · have HU2 := Lib.hid (show U = 304 from by rw [← HU.out]; simp [evalI, *])
                    clear HU
                    go_wp2_with fail
                    go_ret
                    rw [HU2.out]
                    exact ⟨rfl, hBw6⟩
            · have HU2 := Lib.hid (show U = 412 from by rw [← HU.out]; simp [evalI, *])
              clear HU
              go_wp2_with fail
              go_ret
              rw [HU2.out]
              exact ⟨rfl, hBw5⟩
      · cases m1
        · have HU2 := Lib.hid (show U = 412 from by rw [← HU.out]; simp [evalI, *])
          clear HU
          go_wp2_with fail
          go_ret
          rw [HU2.out]
          exact ⟨rfl, hBw4⟩
        · go_wp2_with fail
          refine (hs1 _ hrw4 hMw4).mono ?_
          rintro e w5 ⟨rfl, hbw5⟩
          have hBw5 := hBw4.trans (hbw5.mono hBw4.size)
          have hrw5 := (hrw4.below hbw5 (Nat.le_refl _)).more hbw5.size
          have hMw5 := hMw4.keep hbw5
          clear hbw5 hBw4 hrw4 hMw4
          go_wp2_with fail
          refine (ht2 _ hrw5).mono ?_
          rintro e w6 ⟨rfl, hbw6⟩
          have hBw6 := hBw5.trans (hbw6.mono hBw5.size)
          have hrw6 := (hrw5.below hbw6 (Nat.le_refl _)).more hbw6.size
          have hMw6 := hMw5.keep hbw6
          clear hbw6 hBw5 hrw5 hMw5
          cases i2
          · go_wp2_with fail
            refine (hs2 _ hrw6 hMw6).mono ?_
            rintro e w7 ⟨rfl, hbw7⟩
            have hBw7 := hBw6.trans (hbw7.mono hBw6.size)
            have hrw7 := (hrw6.below hbw7 (Nat.le_refl _)).more hbw7.size
            have hMw7 := hMw6.keep hbw7
            clear hbw7 hBw6 hrw6 hMw6
            cases h2
            · have HU2 := Lib.hid (show U = 0 from by rw [← HU.out]; simp [evalI, *])
              clear HU
              go_wp2_with fail
              go_ret
              rw [HU2.out]
              exact ⟨rfl, hBw7⟩
            · cases kn
              · have HU2 := Lib.hid (show U = 0 from by rw [← HU.out]; simp [evalI, *])
                clear HU
                go_wp2_with fail
                go_ret
                rw [HU2.out]
                exact ⟨rfl, hBw7⟩
              · cases rd
                · have HU2 := Lib.hid (show U = 0 from by rw [← HU.out]; simp [evalI, *])
                  clear HU
                  go_wp2_with fail
                  go_ret
                  rw [HU2.out]
                  exact ⟨rfl, hBw7⟩
                · cases hc2 : decide (md ≤ n2)
                  · have HU2 := Lib.hid (show U = 0 from by rw [← HU.out]; simp [evalI, *])
                    clear HU
                    go_wp2_with fail
                    go_ret
                    rw [HU2.out]
                    exact ⟨rfl, hBw7⟩
                  · have HU2 := Lib.hid (show U = 304 from by rw [← HU.out]; simp [evalI, *])
                    clear HU
                    go_wp2_with fail
                    go_ret
                    rw [HU2.out]
                    exact ⟨rfl, hBw7⟩
          · cases m2
            · go_wp2_with fail
              refine (hs2 _ hrw6 hMw6).mono ?_
              rintro e w7 ⟨rfl, hbw7⟩
              have hBw7 := hBw6.trans (hbw7.mono hBw6.size)
              have hrw7 := (hrw6.below hbw7 (Nat.le_refl _)).more hbw7.size
              have hMw7 := hMw6.keep hbw7
              clear hbw7 hBw6 hrw6 hMw6
              have HU2 := Lib.hid (show U = 0 from by rw [← HU.out]; simp [evalI, *])
              clear HU
              go_wp2_with fail
              go_ret
              rw [HU2.out]
              exact ⟨rfl, hBw7⟩
            · cases rd
              · have HU2 := Lib.hid (show U = 412 from by rw [← HU.out]; simp [evalI, *])
                clear HU
                go_wp2_with fail
                go_ret
                rw [HU2.out]
                exact ⟨rfl, hBw6⟩
              · have HU2 := Lib.hid (show U = 304 from by rw [← HU.out]; simp [evalI, *])
                clear HU
                go_wp2_with fail
                go_ret
                rw [HU2.out]
                exact ⟨rfl, hBw6⟩
end Go.Proofs.YtcoghpokkhjhgaaGreatDoor
