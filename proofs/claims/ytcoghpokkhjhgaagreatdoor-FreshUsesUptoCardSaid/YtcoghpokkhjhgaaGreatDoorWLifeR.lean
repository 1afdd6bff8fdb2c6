/- Walk: the reference's Life. -/
import Derived.Test.YtcoghpokkhjhgaaGreatDoorSpecLife
import Derived.Test.YtcoghpokkhjhgaaGreatDoorWAny
namespace Go.Proofs.YtcoghpokkhjhgaaGreatDoor
open Go.RowKit Go.Larder
set_option linter.unusedVariables false
set_option linter.unusedSimpArgs false
set_option maxHeartbeats 4000000 in
set_option maxRecDepth 100000 in
theorem w_LifeR (l : List Fld) (hj : (l.map (fun f => f.1.length + f.2.length + 3)).sum ≤ 1048576) (A : Option Addr) (c : Nat) (w : World) (hr : ReadL encF w w.heap.size A l) (hM : ML w) (c0 c1 c2 c3 : Value) (code : Int) (c5 c7 c10 : Value) (ak cm : Int) :
    Calls Tryz.prog 23 #[.agg (heldC c0 c1 c2 c3 (.int .i64 code) c5 A l.length c c7 ak cm c10).toArray] w fun e w' => e = .returned (.int .i64 (lifeE l code cm)) ∧ Below w.heap.size w w' := by
  have hb0 : Below w.heap.size w (w.alloc (.cells (heldC c0 c1 c2 c3 (.int .i64 code) c5 A l.length c c7 ak cm c10).toArray 30)) := (Below.refl _ _).alloc (Nat.le_refl _) _
  have bx := BoxAt.new w (heldC c0 c1 c2 c3 (.int .i64 code) c5 A l.length c c7 ak cm c10) 30
  have hr0 := (hr.alloc (Nat.le_refl _) (.cells (heldC c0 c1 c2 c3 (.int .i64 code) c5 A l.length c c7 ak cm c10).toArray 30)).more (B' := (w.alloc (.cells (heldC c0 c1 c2 c3 (.int .i64 code) c5 A l.length c c7 ak cm c10).toArray 30)).heap.size) (by simp)
  have hM0 := hM.keep hb0
  obtain ⟨hd1, hd2⟩ := dirsE_bd l
  have hd3 : ∀ d ∈ dirsE l, d.2.2.length ≤ 140737488351232 := fun d hd => by have := hd2 d hd; omega
  have hs1 := fun A' c' W hrW => w_ControlSecondsR smN (dirsE l) (by omega) hd3 A' c' W hrW
  have hs2 := fun A' c' W hrW => w_ControlSecondsR maN (dirsE l) (by omega) hd3 A' c' W hrW
  have hdir := fun W hrW => w_controlsR l hj A c W hrW
  have hte := fun W hrW hMW => w_dateOfR expN (by decide) l hj A c W hrW hMW
  have htl := fun W hrW hMW => w_dateOfR lmN (by decide) l hj A c W hrW hMW
  have hda := fun W hrW hMW => w_madeR l hj A c W hrW hMW c0 c1 c2 c3 (.int .i64 code) c5 c7 c10 ak cm
  have hgu := fun W => w_storedR code W
  have hany := fun A' c' W hrW hrW' => w_anyFieldR [expN] (by decide) (by decide) l hj A c A' c' W hrW hrW'
  have hae : ([expN].any fun n => !(valsL (lowL n) l).isEmpty) = (!(valsL (lowL expN) l).isEmpty) := by simp
  simp only [hae] at hany
  clear hae
  have hdb := datedE_bd l cm
  have hx3 := toldE_bd expN l
  have hx4 := toldE_bd lmN l
  unfold lifeE
  generalize hlx : (!(valsL (lowL expN) l).isEmpty) = be at *
  generalize toldE expN l = t3 at *
  generalize toldE lmN l = t4 at *
  generalize datedE l cm = dt at *
  generalize codeB code = cb at *
  generalize secs (findD smN (dirsE l)).1.2.2 = n1 at *
  generalize secs (findD maN (dirsE l)).1.2.2 = n2 at *
  generalize (findD smN (dirsE l)).2 = b1 at *
  generalize (findD maN (dirsE l)).2 = b2 at *
  generalize dirsE l = D at *
  obtain ⟨n3, b3⟩ := t3
  obtain ⟨n4, b4⟩ := t4
  simp only at hte htl hx3 hx4
  clear hd2 hd3 hlx hj
  unfold heldC at *
  go_enter Tryz.func23, Tryz.ntmps23
  go_wp2_with fail
  have hbwA : Below w.heap.size w (w.alloc (.cells #[c0, c1, c2, c3, .int .i64 code, c5, .slice A l.length c, c7, .int .i64 ak, .int .i64 cm, c10] 30)) := hb0
  have bxA : BoxAt (w.alloc (.cells #[c0, c1, c2, c3, .int .i64 code, c5, .slice A l.length c, c7, .int .i64 ak, .int .i64 cm, c10] 30)) w.heap.size 30 _ := bx
  have hMA := hM0
  have hrA := hr0
  clear hb0 bx hM0 hr0 hr hM
  generalize (w.alloc (.cells #[c0, c1, c2, c3, .int .i64 code, c5, .slice A l.length c, c7, .int .i64 ak, .int .i64 cm, c10] 30)) = WA at *
  refine (hdir _ hrA).mono ?_
  rintro e w1 ⟨A1, c1, rfl, hdB, hb1⟩
  have hbwB := hbwA.trans ((hb1).mono hbwA.size)
  have bxB := bxA.keep (hb1)
  have hMB := hMA.keep (hb1)
  have hrB := (hrA.below (hb1) (Nat.le_refl _)).more (hb1).size
  clear hbwA bxA hMA hrA hb1
  go_wp2_with fail
  refine (hs1 _ _ _ hdB).mono ?_
  rintro e w2 ⟨rfl, hb2⟩
  have hbwC := hbwB.trans ((hb2).mono hbwB.size)
  have bxC := bxB.keep (hb2)
  have hMC := hMB.keep (hb2)
  have hrC := (hrB.below (hb2) (Nat.le_refl _)).more (hb2).size
  clear hbwB bxB hMB hrB hdB hb2
  cases b1
  · go_wp2_with fail
    refine (hdir _ hrC).mono ?_
    rintro e w3 ⟨A3, c3', rfl, hdD, hb3⟩
    have hbwD := hbwC.trans ((hb3).mono hbwC.size)
    have bxD := bxC.keep (hb3)
    have hMD := hMC.keep (hb3)
    have hrD := (hrC.below (hb3) (Nat.le_refl _)).more (hb3).size
    clear hbwC bxC hMC hrC hb3
    go_wp2_with fail
    refine (hs2 _ _ _ hdD).mono ?_
    rintro e w4 ⟨rfl, hb4⟩
    have hbwE := hbwD.trans ((hb4).mono hbwD.size)
    have bxE := bxD.keep (hb4)
    have hME := hMD.keep (hb4)
    have hrE := (hrD.below (hb4) (Nat.le_refl _)).more (hb4).size
    clear hbwD bxD hMD hrD hdD hb4 hs1 hs2 hdir
    cases b2
    · have hbl : Below w4.heap.size w4 (w4.alloc (.cells #[S [69, 120, 112, 105, 114, 101, 115]] 9)) := (Below.refl _ _).alloc (Nat.le_refl _) _
      have hlit : ReadL encS (w4.alloc (.cells #[S [69, 120, 112, 105, 114, 101, 115]] 9)) (w4.heap.size + 1) (some ⟨w4.heap.size, 0, none⟩) [expN] := ReadL.lit (E := encS) w4 #[S [69, 120, 112, 105, 114, 101, 115]] _ [expN] rfl
      have hlit2 := hlit.more (B' := (w4.alloc (.cells #[S [69, 120, 112, 105, 114, 101, 115]] 9)).heap.size) (by simp)
      have hbwF := hbwE.trans ((hbl).mono hbwE.size)
      have bxF := bxE.keep (hbl)
      have hMF := hME.keep (hbl)
      have hrF := (hrE.below (hbl) (Nat.le_refl _)).more (hbl).size
      clear hbwE bxE hME hrE hbl hlit
      go_wp2_with fail
      refine (hany _ _ _ hrF hlit2).mono ?_
      rintro e w5 ⟨rfl, hb5⟩
      have hbwG := hbwF.trans ((hb5).mono hbwF.size)
      have bxG := bxF.keep (hb5)
      have hMG := hMF.keep (hb5)
      have hrG := (hrF.below (hb5) (Nat.le_refl _)).more (hb5).size
      clear hbwF bxF hMF hrF hb5 hany hlit2
      cases be
      · go_wp2_with fail
        refine (htl _ hrG hMG).mono ?_
        rintro e w6 ⟨rfl, hb6⟩
        have hbwH := hbwG.trans ((hb6).mono hbwG.size)
        have bxH := bxG.keep (hb6)
        have hMH := hMG.keep (hb6)
        have hrH := (hrG.below (hb6) (Nat.le_refl _)).more (hb6).size
        clear hbwG bxG hMG hrG hb6
        cases b4
        · go_wp2_with fail
          go_ret
          exact ⟨rfl, hbwH⟩
        · have p4 := bxH.cell (j := 4) rfl
          cases cb
          · go_wp2_with (go_at_call 50; refine (hgu _).mono ?_; rintro e w7 ⟨rfl, hb7⟩)
            go_ret
            exact ⟨rfl, hbwH.trans (hb7.mono hbwH.size)⟩
          · go_wp2_with fail
            refine (hgu _).mono ?_
            rintro e w7 ⟨rfl, hb7⟩
            have hbwI := hbwH.trans ((hb7).mono hbwH.size)
            have bxI := bxH.keep (hb7)
            have hMI := hMH.keep (hb7)
            have hrI := (hrH.below (hb7) (Nat.le_refl _)).more (hb7).size
            have q0 := bxI.cell (j := 0) rfl
            have q1 := bxI.cell (j := 1) rfl
            have q2 := bxI.cell (j := 2) rfl
            have q3 := bxI.cell (j := 3) rfl
            have q4 := bxI.cell (j := 4) rfl
            have q5 := bxI.cell (j := 5) rfl
            have q6 := bxI.cell (j := 6) rfl
            have q7 := bxI.cell (j := 7) rfl
            have q8 := bxI.cell (j := 8) rfl
            have q9 := bxI.cell (j := 9) rfl
            have q10 := bxI.cell (j := 10) rfl
            clear hbwH bxH hMH hrH hb7 p4
            go_wp2_with fail
            refine (hda _ hrI hMI).mono ?_
            rintro e w8 ⟨rfl, hb8⟩
            have hbwJ := hbwI.trans ((hb8).mono hbwI.size)
            have bxJ := bxI.keep (hb8)
            have hMJ := hMI.keep (hb8)
            have hrJ := (hrI.below (hb8) (Nat.le_refl _)).more (hb8).size
            have r0 := bxJ.cell (j := 0) rfl
            have r1 := bxJ.cell (j := 1) rfl
            have r2 := bxJ.cell (j := 2) rfl
            have r3 := bxJ.cell (j := 3) rfl
            have r4 := bxJ.cell (j := 4) rfl
            have r5 := bxJ.cell (j := 5) rfl
            have r6 := bxJ.cell (j := 6) rfl
            have r7 := bxJ.cell (j := 7) rfl
            have r8 := bxJ.cell (j := 8) rfl
            have r9 := bxJ.cell (j := 9) rfl
            have r10 := bxJ.cell (j := 10) rfl
            clear hbwI bxI hMI hrI hb8 q0 q1 q2 q3 q4 q5 q6 q7 q8 q9 q10
            by_cases hgt : dt < n4
            · have hq := tdiv10_bd (dt - n4)
              have hz : w31 ((dt - n4).tdiv 10) = 0 := w31_neg (by omega)
              have Hz := Lib.hid (show lifeI false n1 false n2 false b3 n3 true n4 true dt = 0 from hz)
              clear hz hq
              go_wp2_with fail
              go_ret
              rw [Hz.out]
              exact ⟨rfl, hbwJ⟩
            · have v1 : IntKind.i64.wrap (dt - n4) = dt - n4 := IntWalk.i64_in _ ⟨by omega, by omega⟩
              have hq := tdiv10_bd (dt - n4)
              go_wp2_with fail
              refine (hda _ hrJ hMJ).mono ?_
              rintro e w9 ⟨rfl, hb9⟩
              go_wp2_with (go_at_call 48; refine (w_spanR _ _ _).mono ?_; rintro e w' ⟨rfl, rfl⟩)
              go_ret
              refine ⟨ret_int ?_, hbwJ.trans (hb9.mono hbwJ.size)⟩
              show _ = w31 ((dt - n4).tdiv 10)
              unfold w31
              clear v1
              generalize (dt - n4).tdiv 10 = q at *
              omega
      · go_wp2_with fail
        refine (hte _ hrG hMG).mono ?_
        rintro e w6 ⟨rfl, hb6⟩
        have hbwH := hbwG.trans ((hb6).mono hbwG.size)
        have bxH := bxG.keep (hb6)
        have hMH := hMG.keep (hb6)
        have hrH := (hrG.below (hb6) (Nat.le_refl _)).more (hb6).size
        clear hbwG bxG hMG hrG hb6
        cases b3
        · go_wp2_with fail
          go_ret
          exact ⟨rfl, hbwH⟩
        · have q0 := bxH.cell (j := 0) rfl
          have q1 := bxH.cell (j := 1) rfl
          have q2 := bxH.cell (j := 2) rfl
          have q3 := bxH.cell (j := 3) rfl
          have q4 := bxH.cell (j := 4) rfl
          have q5 := bxH.cell (j := 5) rfl
          have q6 := bxH.cell (j := 6) rfl
          have q7 := bxH.cell (j := 7) rfl
          have q8 := bxH.cell (j := 8) rfl
          have q9 := bxH.cell (j := 9) rfl
          have q10 := bxH.cell (j := 10) rfl
          have v1 : IntKind.i64.wrap (n3 - dt) = n3 - dt := IntWalk.i64_in _ ⟨by omega, by omega⟩
          go_wp2_with fail
          refine (hda _ hrH hMH).mono ?_
          rintro e w7 ⟨rfl, hb7⟩
          go_wp2_with (go_at_call 48; refine (w_spanR _ _ _).mono ?_; rintro e w' ⟨rfl, rfl⟩)
          go_ret
          refine ⟨ret_int ?_, hbwH.trans (hb7.mono hbwH.size)⟩
          show _ = w31 (n3 - dt)
          clear v1
          unfold w31
          omega
    · go_wp2_with fail
      go_ret
      exact ⟨rfl, hbwE⟩
  · go_wp2_with fail
    go_ret
    exact ⟨rfl, hbwC⟩

end Go.Proofs.YtcoghpokkhjhgaaGreatDoor
