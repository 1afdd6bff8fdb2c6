/- Walk: fresh.Life. -/
import Derived.Test.YtcoghpokkhjhgaaGreatDoorSpecLife
import Derived.LoopN
namespace Go.Proofs.YtcoghpokkhjhgaaGreatDoor
open Go.RowKit Go.Larder
set_option linter.unusedVariables false
set_option linter.unusedSimpArgs false
set_option maxHeartbeats 4000000 in
set_option maxRecDepth 100000 in
theorem w_Life (l : List Fld) (hj : (l.map (fun f => f.1.length + f.2.length + 3)).sum ≤ 1048576) (A : Option Addr) (c : Nat) (w : World) (hr : ReadL encF w w.heap.size A l) (hP : PW w) (hM : ML w) (c0 c1 c2 c3 : Value) (code : Int) (c5 c7 c10 : Value) (ak cm : Int) :
    Calls Tryz.prog 17 #[.agg (heldC c0 c1 c2 c3 (.int .i64 code) c5 A l.length c c7 ak cm c10).toArray] w fun e w' => e = .returned (.int .i64 (lifeE l code cm)) ∧ Below w.heap.size w w' := by
  have hb0 : Below w.heap.size w (w.alloc (.cells (heldC c0 c1 c2 c3 (.int .i64 code) c5 A l.length c c7 ak cm c10).toArray 30)) := (Below.refl _ _).alloc (Nat.le_refl _) _
  have bx := BoxAt.new w (heldC c0 c1 c2 c3 (.int .i64 code) c5 A l.length c c7 ak cm c10) 30
  have hr0 := (hr.alloc (Nat.le_refl _) (.cells (heldC c0 c1 c2 c3 (.int .i64 code) c5 A l.length c c7 ak cm c10).toArray 30)).more (B' := (w.alloc (.cells (heldC c0 c1 c2 c3 (.int .i64 code) c5 A l.length c c7 ak cm c10).toArray 30)).heap.size) (by simp)
  have hP0 := hP.keep hb0
  have hM0 := hM.keep hb0
  obtain ⟨hd1, hd2⟩ := dirsE_bd l
  have hd3 : ∀ d ∈ dirsE l, d.2.2.length ≤ 140737488351232 := fun d hd => by have := hd2 d hd; omega
  have hs1 := fun A' c' W hrW => w_Seconds smN (dirsE l) (by omega) hd3 A' c' W hrW
  have hs2 := fun A' c' W hrW => w_Seconds maN (dirsE l) (by omega) hd3 A' c' W hrW
  have hdir := fun W hrW => w_directives l hj A c W hrW
  have hge := fun W hrW => w_GetS expN (by decide) l hj A c W hrW
  have hte := fun W hrW hPW hMW => w_told expN (by decide) l hj A c W hrW hPW hMW
  have htl := fun W hrW hPW hMW => w_told lmN (by decide) l hj A c W hrW hPW hMW
  have hda := fun W hrW hPW hMW => w_dated l hj A c W hrW hPW hMW c0 c1 c2 c3 (.int .i64 code) c5 c7 c10 ak cm
  have hgu := fun W => w_guessed code W
  have hdb := datedE_bd l cm
  have hx3 := toldE_bd expN l
  have hx4 := toldE_bd lmN l
  unfold lifeE
  generalize hlx : (!(valsL (lowL expN) l).isEmpty) = be at *
  generalize Lib.join (valsL (lowL expN) l) sepL = sx at *
  generalize toldE expN l = t3 at *
  generalize toldE lmN l = t4 at *
  generalize datedE l cm = dt at *
  generalize codeB code = cb at *
  generalize secs (findD smN (dirsE l)).1.2.2 = n1 at *
  generalize secs (findD maN (dirsE l)).1.2.2 = n2 at *
  generalize (findD smN (dirsE l)).2 = b1 at *
  generalize (findD maN (dirsE l)).2 = b2 at *
  generalize dirsE l = D at *
  obtain ⟨n3, b3⟩ := t3
  obtain ⟨n4, b4⟩ := t4
  simp only at hte htl hx3 hx4
  clear hd2 hd3 hlx hj
  unfold heldC at *
  go_enter Tryz.func17, Tryz.ntmps17
  go_wp2_with fail
  have hbwA : Below w.heap.size w (w.alloc (.cells #[c0, c1, c2, c3, .int .i64 code, c5, .slice A l.length c, c7, .int .i64 ak, .int .i64 cm, c10] 30)) := hb0
  have bxA : BoxAt (w.alloc (.cells #[c0, c1, c2, c3, .int .i64 code, c5, .slice A l.length c, c7, .int .i64 ak, .int .i64 cm, c10] 30)) w.heap.size 30 _ := bx
  have hPA := hP0
  have hMA := hM0
  have hrA := hr0
  clear hb0 bx hP0 hM0 hr0 hr hP hM
  generalize (w.alloc (.cells #[c0, c1, c2, c3, .int .i64 code, c5, .slice A l.length c, c7, .int .i64 ak, .int .i64 cm, c10] 30)) = WA at *
  refine (hdir _ hrA).mono ?_
  rintro e w1 ⟨A1, c1, rfl, hd1', hb1⟩
  have hbwB := hbwA.trans (hb1.mono hbwA.size)
  have bxB := bxA.keep hb1
  have hPB := hPA.keep hb1
  have hMB := hMA.keep hb1
  have hrB := (hrA.below hb1 (Nat.le_refl _)).more hb1.size
  have hdB := hd1'
  clear hbwA bxA hPA hMA hrA hd1' hb1 hdir
  have hbl : Below w1.heap.size w1 (w1.alloc (.cells #[S [115, 45, 109, 97, 120, 97, 103, 101], S [109, 97, 120, 45, 97, 103, 101]] 9)) := (Below.refl _ _).alloc (Nat.le_refl _) _
  have hbwC := hbwB.trans ((hbl).mono hbwB.size)
  have bxC := bxB.keep (hbl)
  have hMC := hMB.keep (hbl)
  have hrC := (hrB.below (hbl) (Nat.le_refl _)).more (hbl).size
  have hPC := hPB.keep (hbl)
  have hdC := (hdB.below (hbl) (Nat.le_refl _)).more (hbl).size
  have bl := BoxAt.new w1 [S [115, 45, 109, 97, 120, 97, 103, 101], S [109, 97, 120, 45, 97, 103, 101]] 9
  clear hbwB bxB hPB hMB hrB hdB
  go_wp2_with fail
  generalize w1.alloc (.cells #[S [115, 45, 109, 97, 120, 97, 103, 101], S [109, 97, 120, 45, 97, 103, 101]] 9) = WC at *
  have l0 := bl.cell (j := 0) rfl
  refine wp_loop_rounds 3 ?_
  rw [rounds_succ]
  go_wp2_with fail
  refine (hs1 _ _ _ hdC).mono ?_
  rintro e w2 ⟨rfl, hb2⟩
  have hbwD := hbwC.trans ((hb2).mono hbwC.size)
  have bxD := bxC.keep (hb2)
  have hMD := hMC.keep (hb2)
  have hrD := (hrC.below (hb2) (Nat.le_refl _)).more (hb2).size
  have hPD := hPC.keep (hb2)
  have hdD := (hdC.below (hb2) (Nat.le_refl _)).more (hb2).size
  have bl2 := bl.keep hb2
  clear hbwC bxC hPC hMC hrC hdC hb2 bl l0
  cases b1
  · have l1 := bl2.cell (j := 1) rfl
    go_wp2_with fail
    rw [rounds_succ]
    go_wp2_with fail
    refine (hs2 _ _ _ hdD).mono ?_
    rintro e w3 ⟨rfl, hb3⟩
    have hbwE := hbwD.trans ((hb3).mono hbwD.size)
    have bxE := bxD.keep (hb3)
    have hME := hMD.keep (hb3)
    have hrE := (hrD.below (hb3) (Nat.le_refl _)).more (hb3).size
    have hPE := hPD.keep (hb3)
    have hdE := (hdD.below (hb3) (Nat.le_refl _)).more (hb3).size
    clear hbwD bxD hPD hMD hrD hdD hb3 bl2 l1
    cases b2
    · go_wp2_with fail
      rw [rounds_succ]
      go_wp2_with fail
      refine (hge _ hrE).mono ?_
      rintro e w4 ⟨rfl, hb4⟩
      have hbwF := hbwE.trans ((hb4).mono hbwE.size)
      have bxF := bxE.keep (hb4)
      have hMF := hME.keep (hb4)
      have hrF := (hrE.below (hb4) (Nat.le_refl _)).more (hb4).size
      have hPF := hPE.keep (hb4)
      have hdF := (hdE.below (hb4) (Nat.le_refl _)).more (hb4).size
      clear hbwE bxE hPE hME hrE hdE hb4
      cases be
      · go_wp2_with fail
        refine (htl _ hrF hPF hMF).mono ?_
        rintro e w5 ⟨rfl, hb5⟩
        have hbwG := hbwF.trans ((hb5).mono hbwF.size)
        have bxG := bxF.keep (hb5)
        have hMG := hMF.keep (hb5)
        have hrG := (hrF.below (hb5) (Nat.le_refl _)).more (hb5).size
        have hPG := hPF.keep (hb5)
        have hdG := (hdF.below (hb5) (Nat.le_refl _)).more (hb5).size
        clear hbwF bxF hPF hMF hrF hdF hb5
        cases b4
        · go_wp2_with fail
          go_ret
          exact ⟨rfl, hbwG⟩
        · have p4 := bxG.cell (j := 4) rfl
          cases cb
          · go_wp2_with (go_at_call 43; refine (hgu _).mono ?_; rintro e w' ⟨rfl, rfl⟩)
            go_ret
            exact ⟨rfl, hbwG⟩
          · have q0 := bxG.cell (j := 0) rfl
            have q1 := bxG.cell (j := 1) rfl
            have q2 := bxG.cell (j := 2) rfl
            have q3 := bxG.cell (j := 3) rfl
            have q4 := bxG.cell (j := 4) rfl
            have q5 := bxG.cell (j := 5) rfl
            have q6 := bxG.cell (j := 6) rfl
            have q7 := bxG.cell (j := 7) rfl
            have q8 := bxG.cell (j := 8) rfl
            have q9 := bxG.cell (j := 9) rfl
            have q10 := bxG.cell (j := 10) rfl
            have v1 : IntKind.i64.wrap (dt - n4) = dt - n4 := IntWalk.i64_in _ ⟨by omega, by omega⟩
            have hq := tdiv10_bd (dt - n4)
            go_wp2_with (go_at_call 43; refine (hgu _).mono ?_; rintro e w' ⟨rfl, rfl⟩)
            refine (hda _ hrG hPG hMG).mono ?_
            rintro e w6 ⟨rfl, hb6⟩
            go_wp2_with (go_at_call 41; refine (w_within _ _).mono ?_; rintro e w' ⟨rfl, rfl⟩)
            go_ret
            refine ⟨ret_int ?_, hbwG.trans (hb6.mono hbwG.size)⟩
            show _ = w31 ((dt - n4).tdiv 10)
            rfl
      · go_wp2_with fail
        refine (hte _ hrF hPF hMF).mono ?_
        rintro e w5 ⟨rfl, hb5⟩
        have hbwG := hbwF.trans ((hb5).mono hbwF.size)
        have bxG := bxF.keep (hb5)
        have hMG := hMF.keep (hb5)
        have hrG := (hrF.below (hb5) (Nat.le_refl _)).more (hb5).size
        have hPG := hPF.keep (hb5)
        have hdG := (hdF.below (hb5) (Nat.le_refl _)).more (hb5).size
        clear hbwF bxF hPF hMF hrF hdF hb5
        cases b3
        · go_wp2_with fail
          go_ret
          exact ⟨rfl, hbwG⟩
        · have q0 := bxG.cell (j := 0) rfl
          have q1 := bxG.cell (j := 1) rfl
          have q2 := bxG.cell (j := 2) rfl
          have q3 := bxG.cell (j := 3) rfl
          have q4 := bxG.cell (j := 4) rfl
          have q5 := bxG.cell (j := 5) rfl
          have q6 := bxG.cell (j := 6) rfl
          have q7 := bxG.cell (j := 7) rfl
          have q8 := bxG.cell (j := 8) rfl
          have q9 := bxG.cell (j := 9) rfl
          have q10 := bxG.cell (j := 10) rfl
          have v1 : IntKind.i64.wrap (n3 - dt) = n3 - dt := IntWalk.i64_in _ ⟨by omega, by omega⟩
          go_wp2_with fail
          refine (hda _ hrG hPG hMG).mono ?_
          rintro e w6 ⟨rfl, hb6⟩
          go_wp2_with (go_at_call 41; refine (w_within _ _).mono ?_; rintro e w' ⟨rfl, rfl⟩)
          go_ret
          exact ⟨rfl, hbwG.trans (hb6.mono hbwG.size)⟩
    · go_wp2_with fail
      go_ret
      exact ⟨rfl, hbwE⟩
  · go_wp2_with fail
    go_ret
    exact ⟨rfl, hbwD⟩

end Go.Proofs.YtcoghpokkhjhgaaGreatDoor
