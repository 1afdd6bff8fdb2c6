/- Walk: the reference's Use. -/
import Derived.Test.YtcoghpokkhjhgaaGreatDoorWStale1
import Derived.Test.YtcoghpokkhjhgaaGreatDoorWLifeR
import Derived.Deep.RegionHeld3
import Derived.Deep.QuietTactic
import Derived.BigQuiet
import Derived.Deep.DeepCutAuto
namespace Go.Proofs.YtcoghpokkhjhgaaGreatDoor
open Go.RowKit Go.Larder
set_option linter.unusedVariables false
set_option linter.unusedSimpArgs false
set_option maxHeartbeats 8000000 in
set_option maxRecDepth 100000 in
theorem w_UseR (l1 : List Fld) (hj1 : (l1.map (fun f => f.1.length + f.2.length + 3)).sum ≤ 1048576) (A1 : Option Addr) (n1 : Nat) (l : List Fld) (hj : (l.map (fun f => f.1.length + f.2.length + 3)).sum ≤ 1048576) (A : Option Addr) (c : Nat) (w : World) (hr1 : ReadL encF w w.heap.size A1 l1) (hr : ReadL encF w w.heap.size A l) (hP : PW w) (hM : ML w) (c0 c1 c2 c3 : Value) (code : Int) (c5 c7 c10 : Value) (ak cm nw : Int) :
    Calls Tryz.prog 8 #[.slice A1 l1.length n1, .agg (heldC c0 c1 c2 c3 (.int .i64 code) c5 A l.length c c7 ak cm c10).toArray, .int .i64 nw] w fun e w' => e = .returned (.int .i64 (useE l1 l code cm ak nw)) ∧ Below w.heap.size w w' := by
  have hb0 : Below w.heap.size w (w.alloc (.cells (heldC c0 c1 c2 c3 (.int .i64 code) c5 A l.length c c7 ak cm c10).toArray 30)) := (Below.refl _ _).alloc (Nat.le_refl _) _
  have bx := BoxAt.new w (heldC c0 c1 c2 c3 (.int .i64 code) c5 A l.length c c7 ak cm c10) 30
  have hr0 := (hr.alloc (Nat.le_refl _) (.cells (heldC c0 c1 c2 c3 (.int .i64 code) c5 A l.length c c7 ak cm c10).toArray 30)).more (B' := (w.alloc (.cells (heldC c0 c1 c2 c3 (.int .i64 code) c5 A l.length c c7 ak cm c10).toArray 30)).heap.size) (by simp)
  have hr10 := (hr1.alloc (Nat.le_refl _) (.cells (heldC c0 c1 c2 c3 (.int .i64 code) c5 A l.length c c7 ak cm c10).toArray 30)).more (B' := (w.alloc (.cells (heldC c0 c1 c2 c3 (.int .i64 code) c5 A l.length c c7 ak cm c10).toArray 30)).heap.size) (by simp)
  have hP0 := hP.keep hb0
  have hM0 := hM.keep hb0
  have hdA := fun W hrW => w_controlsR l1 hj1 A1 n1 W hrW
  have hdB := fun W hrW => w_controlsR l hj A c W hrW
  have hli := fun W hrW hMW => w_LifeR l hj A c W hrW hMW c0 c1 c2 c3 code c5 c7 c10 ak cm
  have hag := fun W hrW hMW => w_AgeR l hj A c W hrW hMW c0 c1 c2 c3 (.int .i64 code) c5 c7 c10 ak cm nw
  obtain ⟨d1a, d1b⟩ := dirsE_bd l1
  obtain ⟨d2a, d2b⟩ := dirsE_bd l
  have hlb := lifeE_bd l code cm
  have hab := ageE_bd l ak cm nw
  have hx1 : ∀ d ∈ dirsE l1, d.2.2.length ≤ 140737488351232 := fun d hd => by have := d1b d hd; omega
  unfold useE
  generalize lifeE l code cm = life at *
  generalize ageE l ak cm nw = age at *
  generalize dirsE l1 = D1 at *
  generalize dirsE l = D2 at *
  have hsc := fun n A' c' W hrW => w_ControlSecondsR n D1 (by omega) hx1 A' c' W hrW
  clear hj hj1 d1b d2b
  obtain ⟨U, hU⟩ : ∃ U, useI ((findD ncN D1).2 || (findD ncN D2).2) (findD maN D1).2 (secs (findD maN D1).1.2.2) (findD mfN D1).2 (secs (findD mfN D1).1.2.2) (someD [mrN, prN, smN, ncN] D2) (staleI (findD msN D1) (age - life)) life age (findD oicN D1).2 = U := ⟨_, rfl⟩
  rw [hU]
  have HU := Lib.hid hU
  clear hU
  unfold heldC at *
  go_enter Tryz.func8, Tryz.ntmps8
  go_wp2_with fail
  have hbwA : Below w.heap.size w (w.alloc (.cells #[c0, c1, c2, c3, .int .i64 code, c5, .slice A l.length c, c7, .int .i64 ak, .int .i64 cm, c10] 30)).drew := hb0.drew
  have bxA : BoxAt (w.alloc (.cells #[c0, c1, c2, c3, .int .i64 code, c5, .slice A l.length c, c7, .int .i64 ak, .int .i64 cm, c10] 30)).drew w.heap.size 30 [c0, c1, c2, c3, .int .i64 code, c5, .slice A l.length c, c7, .int .i64 ak, .int .i64 cm, c10] := bx
  have hPA : PW (w.alloc (.cells #[c0, c1, c2, c3, .int .i64 code, c5, .slice A l.length c, c7, .int .i64 ak, .int .i64 cm, c10] 30)).drew := hP0
  have hMA : ML (w.alloc (.cells #[c0, c1, c2, c3, .int .i64 code, c5, .slice A l.length c, c7, .int .i64 ak, .int .i64 cm, c10] 30)).drew := hM0
  have hrA : ReadL encF (w.alloc (.cells #[c0, c1, c2, c3, .int .i64 code, c5, .slice A l.length c, c7, .int .i64 ak, .int .i64 cm, c10] 30)).drew (w.alloc (.cells #[c0, c1, c2, c3, .int .i64 code, c5, .slice A l.length c, c7, .int .i64 ak, .int .i64 cm, c10] 30)).drew.heap.size A l := hr0
  have hsA : ReadL encF (w.alloc (.cells #[c0, c1, c2, c3, .int .i64 code, c5, .slice A l.length c, c7, .int .i64 ak, .int .i64 cm, c10] 30)).drew (w.alloc (.cells #[c0, c1, c2, c3, .int .i64 code, c5, .slice A l.length c, c7, .int .i64 ak, .int .i64 cm, c10] 30)).drew.heap.size A1 l1 := hr10
  have p6 := bx.cell (j := 6) rfl
  have hsz0 : w.heap.size < (w.alloc (.cells #[c0, c1, c2, c3, .int .i64 code, c5, .slice A l.length c, c7, .int .i64 ak, .int .i64 cm, c10] 30)).heap.size := by simp
  clear hb0 bx hP0 hM0 hr0 hr10 hr hr1 hP hM
  generalize (w.alloc (.cells #[c0, c1, c2, c3, .int .i64 code, c5, .slice A l.length c, c7, .int .i64 ak, .int .i64 cm, c10] 30)) = WA at *
  have p6d : WA.drew.cell? ⟨w.heap.size, 6, none⟩ = some (.slice A l.length c) := p6
  go_region_held3 (fun w' => w'.cell? ⟨w.heap.size, 6, none⟩ = some (.slice A l.length c)) ((first | exact p6 | exact p6d | exact q6 | exact q7 | assumption)) (first
    | (go_at_call 22; (with_reducible refine Calls.mono (hdA WA.drew hsA) ?_); rintro e w2 ⟨Aa, ca, rfl, hda, hb2⟩; have hbwB := hbwA.trans ((hb2).mono hbwA.size); have bxB := bxA.keep (hb2); have hMB := hMA.keep (hb2); have hPB := hPA.keep (hb2); have hrB := (hrA.below (hb2) (Nat.le_refl _)).more (hb2).size; have hsB := (hsA.below (hb2) (Nat.le_refl _)).more (hb2).size; have q6 := bxB.cell (j := 6) rfl)
    | (go_at_call 22; (with_reducible refine Calls.mono (hdB w2 hrB) ?_); rintro e w3 ⟨Ab, cb, rfl, hdb, hb3⟩; have hbwC := hbwB.trans ((hb3).mono hbwB.size); have bxC := bxB.keep (hb3); have hMC := hMB.keep (hb3); have hPC := hPB.keep (hb3); have hrC := (hrB.below (hb3) (Nat.le_refl _)).more (hb3).size; have hsC := (hsB.below (hb3) (Nat.le_refl _)).more (hb3).size; have q7 := bxC.cell (j := 6) rfl))
  all_goals
    have hda3 := (hda.below hb3 (Nat.le_refl _)).more hb3.size
    clear hbwA bxA hMA hPA hrA hsA hbwB bxB hMB hPB hrB hsB hb2 hb3 hda p6 p6d q6 q7 hdA hdB
    have hbwD := hbwC.drew
    have bxD := bxC.drew
    have hMD : ML w3.drew := hMC
    have hPD : PW w3.drew := hPC
    have hrD : ReadL encF w3.drew w3.drew.heap.size A l := hrC
    have r0 := bxC.cell (j := 0) rfl
    have r1 := bxC.cell (j := 1) rfl
    have r2 := bxC.cell (j := 2) rfl
    have r3 := bxC.cell (j := 3) rfl
    have r4 := bxC.cell (j := 4) rfl
    have r5 := bxC.cell (j := 5) rfl
    have r6 := bxC.cell (j := 6) rfl
    have r7 := bxC.cell (j := 7) rfl
    have r8 := bxC.cell (j := 8) rfl
    have r9 := bxC.cell (j := 9) rfl
    have r10 := bxC.cell (j := 10) rfl
    go_wp2_with fail
    go_region_held3 (fun w' => w'.cell? ⟨w.heap.size, 0, none⟩ = some (c0) ∧ w'.cell? ⟨w.heap.size, 1, none⟩ = some (c1) ∧ w'.cell? ⟨w.heap.size, 2, none⟩ = some (c2) ∧ w'.cell? ⟨w.heap.size, 3, none⟩ = some (c3) ∧ w'.cell? ⟨w.heap.size, 4, none⟩ = some (.int .i64 code) ∧ w'.cell? ⟨w.heap.size, 5, none⟩ = some (c5) ∧ w'.cell? ⟨w.heap.size, 6, none⟩ = some (.slice A l.length c) ∧ w'.cell? ⟨w.heap.size, 7, none⟩ = some (c7) ∧ w'.cell? ⟨w.heap.size, 8, none⟩ = some (.int .i64 ak) ∧ w'.cell? ⟨w.heap.size, 9, none⟩ = some (.int .i64 cm) ∧ w'.cell? ⟨w.heap.size, 10, none⟩ = some (c10)) ((first | exact ⟨r0, r1, r2, r3, r4, r5, r6, r7, r8, r9, r10⟩ | exact ⟨s0, s1, s2, s3, s4, s5, s6, s7, s8, s9, s10⟩ | exact ⟨z0, z1, z2, z3, z4, z5, z6, z7, z8, z9, z10⟩ | assumption)) (first
      | (go_at_call 23; (with_reducible refine Calls.mono (hli w3.drew hrD hMD) ?_); rintro e w4 ⟨rfl, hb4⟩; have hbwE := hbwD.trans ((hb4).mono hbwD.size); have bxE := bxD.keep (hb4); have hME := hMD.keep (hb4); have hPE := hPD.keep (hb4); have hrE := (hrD.below (hb4) (Nat.le_refl _)).more (hb4).size; have s0 := bxE.cell (j := 0) rfl; have s1 := bxE.cell (j := 1) rfl; have s2 := bxE.cell (j := 2) rfl; have s3 := bxE.cell (j := 3) rfl; have s4 := bxE.cell (j := 4) rfl; have s5 := bxE.cell (j := 5) rfl; have s6 := bxE.cell (j := 6) rfl; have s7 := bxE.cell (j := 7) rfl; have s8 := bxE.cell (j := 8) rfl; have s9 := bxE.cell (j := 9) rfl; have s10 := bxE.cell (j := 10) rfl)
      | (go_at_call 24; (with_reducible refine Calls.mono (hag w4 hrE hME) ?_); rintro e w5 ⟨rfl, hb5⟩; have hbwF := hbwE.trans ((hb5).mono hbwE.size); have bxF := bxE.keep (hb5); have hMF := hME.keep (hb5); have hPF := hPE.keep (hb5); have hrF := (hrE.below (hb5) (Nat.le_refl _)).more (hb5).size; have z0 := bxF.cell (j := 0) rfl; have z1 := bxF.cell (j := 1) rfl; have z2 := bxF.cell (j := 2) rfl; have z3 := bxF.cell (j := 3) rfl; have z4 := bxF.cell (j := 4) rfl; have z5 := bxF.cell (j := 5) rfl; have z6 := bxF.cell (j := 6) rfl; have z7 := bxF.cell (j := 7) rfl; have z8 := bxF.cell (j := 8) rfl; have z9 := bxF.cell (j := 9) rfl; have z10 := bxF.cell (j := 10) rfl))
    all_goals
      have hda3D : ReadL encD w3.drew w3.drew.heap.size Aa D1 := hda3
      have hdbD : ReadL encD w3.drew w3.drew.heap.size Ab D2 := hdb
      have hda5 := (hda3D.below hb4 (Nat.le_refl _)).more hb4.size
      have hda6 := (hda5.below hb5 (Nat.le_refl _)).more hb5.size
      have hdb5 := (hdbD.below hb4 (Nat.le_refl _)).more hb4.size
      have hdb6 := (hdb5.below hb5 (Nat.le_refl _)).more hb5.size
      clear hda3 hda3D hda5 hdb hdbD hdb5 hbwC bxC hMC hPC hrC hsC hbwD bxD hMD hPD hrD hbwE bxE hME hPE hrE hb4 hb5 hli hag
      clear r0 r1 r2 r3 r4 r5 r6 r7 r8 r9 r10 s0 s1 s2 s3 s4 s5 s6 s7 s8 s9 s10 z0 z1 z2 z3 z4 z5 z6 z7 z8 z9 z10
      have hbwF' := hbwF
      have hfm := fun W hrW => w_findR msN D1 (by omega) Aa ca W hrW
      have hms := findD_len (nm := msN) hx1
      have hse := fun (t : List UInt8) (ht : t.length ≤ 140737488351232) W => w_secondsR t ht W
      have hs4 := fun W hrW => w_some4 mrN prN smN ncN D2 (by omega) Ab cb W hrW
      have hsn1 := fun W hrW => w_some1 ncN D1 (by omega) Aa ca W hrW
      have hsn2 := fun W hrW => w_some1 ncN D2 (by omega) Ab cb W hrW
      have hso := fun W hrW => w_some1 oicN D1 (by omega) Aa ca W hrW
      have hsl := fun W hrW => hsc mfN Aa ca W hrW
      have hsm := fun W hrW => hsc maN Aa ca W hrW
      unfold staleI at HU
      generalize findD msN D1 = fm at *
      obtain ⟨⟨ms1, ms2, ms3⟩, msf⟩ := fm
      have hse3 := hse ms3 hms
      simp only at hfm HU
      generalize secs ms3 = sm at *
      generalize (findD ncN D1).2 = x1 at *
      generalize (findD ncN D2).2 = x2 at *
      generalize (findD maN D1).2 = hm at *
      generalize secs (findD maN D1).1.2.2 = ms at *
      generalize (findD mfN D1).2 = hl at *
      generalize secs (findD mfN D1).1.2.2 = ls at *
      generalize someD [mrN, prN, smN, ncN] D2 = bd at *
      generalize (findD oicN D1).2 = o at *
      have v1 : IntKind.i64.wrap (life - age) = life - age := IntWalk.i64_in _ ⟨by omega, by omega⟩
      have v2 : IntKind.i64.wrap (age - life) = age - life := IntWalk.i64_in _ ⟨by omega, by omega⟩
      clear hsc hx1 hse hms
      have hWa := hbwF
      have haa := hda6
      have hdda := hdb6
      clear hbwF hbwF' hda6 hdb6
      go_upto_region 5 with (go_at_call 25; refine (hfm _ haa).mono ?_; rintro e w6 ⟨rfl, hb6⟩)
      have hW6 := hWa.trans (hb6.mono hWa.size)
      have ha6 := (haa.below hb6 (Nat.le_refl _)).more hb6.size
      have hd6 := (hdda.below hb6 (Nat.le_refl _)).more hb6.size
      have hbb : Below w6.heap.size w6 (w6.alloc (.cells #[S ms1, .bool ms2, S ms3] 55)) := (Below.refl _ _).alloc (Nat.le_refl _) _
      have bx7 := BoxAt.new w6 [S ms1, .bool ms2, S ms3] 55
      have hW7 := hW6.trans (hbb.mono hW6.size)
      have ha7 := (ha6.below hbb (Nat.le_refl _)).more hbb.size
      have hd7 := (hd6.below hbb (Nat.le_refl _)).more hbb.size
      clear hWa haa hdda hb6 hW6 ha6 hd6 hbb hfm
      change BoxAt (w6.alloc (.cells #[S ms1, .bool ms2, S ms3] 55)) _ _ _ at bx7
      generalize hg7 : w6.heap.size = g7 at *
      generalize w6.alloc (.cells #[S ms1, .bool ms2, S ms3] 55) = w7 at *
      clear hg7
      go_cut [43] (fun s' wx => s' = .bool (msf && !bd) ∧ BoxAt wx g7 55 [S ms1, .bool ms2, S ms3] ∧ Below w.heap.size w wx ∧ ReadL encD wx wx.heap.size Aa D1 ∧ ReadL encD wx wx.heap.size Ab D2)
      case first =>
        cases msf
        · go_wp2_with fail
          go_meet
          case rel => exact ⟨rfl, bx7, hW7, ha7, hd7⟩
        · go_wp2_with fail
          refine (hs4 _ hd7).mono ?_
          rintro e w8 ⟨rfl, hb8⟩
          cases bd
          all_goals
            go_wp2_with fail
            go_meet
            case rel => exact ⟨rfl, bx7.keep hb8, hW7.trans (hb8.mono hW7.size), (ha7.below hb8 (Nat.le_refl _)).more hb8.size, (hd7.below hb8 (Nat.le_refl _)).more hb8.size⟩
      case rest =>
        obtain ⟨hs43, bx8, hW8, ha8, hd8⟩ := hcut
        clear bx7 hW7 ha7 hd7 hs4
        obtain ⟨t43, ht43⟩ : ∃ t, (msf && !bd) = t := ⟨_, rfl⟩
        rw [ht43] at hs43
        subst hs43
        have HT := Lib.hid ht43
        clear ht43
        have HU3 := Lib.hid (show (if (decide (age < life) || (!bd && (msf && (!ms2 || decide (age - life ≤ sm))))) && !(x1 || x2) && !(hm && decide (ms < age)) && !(hl && decide (life - age < ls)) then (1 : Int) else if o then 3 else 2) = U from HU.out)
        clear HU
        go_upto_if 43 with fail
        go_cut [11] (fun s' wx => s' = .bool (decide (age < life) || (!bd && (msf && (!ms2 || decide (age - life ≤ sm))))) ∧ Below w.heap.size w wx ∧ ReadL encD wx wx.heap.size Aa D1 ∧ ReadL encD wx wx.heap.size Ab D2)
        case first =>
          have p1 := bx8.cell (j := 1) rfl
          have p2 := bx8.cell (j := 2) rfl
          clear bx8 hsn1 hsn2 hso hsl hsm HU3
          cases t43
          · go_wp2_with fail
            go_meet
            case rel => exact ⟨by have := HT.out; cases msf <;> cases bd <;> simp at this ⊢, hW8, ha8, hd8⟩
          · obtain ⟨rfl, rfl⟩ : msf = true ∧ bd = false := by simpa using HT.out
            cases hg : decide (age < life)
            · cases ms2
              · go_wp2_with fail
                go_meet
                case rel => exact ⟨by rw [hg]; rfl, hW8, ha8, hd8⟩
              · cases hgs : decide (age - life ≤ sm)
                all_goals
                  go_wp2_with fail
                  refine (hse3 _).mono ?_
                  rintro e w' ⟨rfl, rfl⟩
                  go_wp2_with fail
                  go_meet
                  case rel => exact ⟨by rw [hg, hgs]; rfl, hW8, ha8, hd8⟩
            · go_wp2_with fail
              go_meet
              case rel => exact ⟨by rw [hg]; rfl, hW8, ha8, hd8⟩
        case rest =>
          obtain ⟨hs11, hW9, ha9, hd9⟩ := hcut
          clear bx8 hW8 ha8 hd8 hse3
          generalize (decide (age < life) || (!bd && (msf && (!ms2 || decide (age - life ≤ sm))))) = g1 at *
          subst hs11
          go_upto_region 7 with fail
          go_cut [66] (fun s' wx => s' = .bool (x1 || x2) ∧ Below w.heap.size w wx ∧ ReadL encD wx wx.heap.size Aa D1 ∧ ReadL encD wx wx.heap.size Ab D2)
          case first =>
            clear hso hsl hsm HU3
            go_wp2_with fail
            refine (hsn1 _ ha9).mono ?_
            rintro e wa ⟨rfl, hba⟩
            cases x1
            · have hda := (hd9.below hba (Nat.le_refl _)).more hba.size
              have hWa := hW9.trans (hba.mono hW9.size)
              have haa := (ha9.below hba (Nat.le_refl _)).more hba.size
              clear hW9 ha9 hd9 hsn1
              go_wp2_with fail
              refine (hsn2 _ hda).mono ?_
              rintro e wb ⟨rfl, hbb⟩
              go_wp2_with fail
              go_meet
              case rel => exact ⟨by simp, hWa.trans ((hbb).mono hWa.size), (haa.below (hbb) (Nat.le_refl _)).more (hbb).size, (hda.below (hbb) (Nat.le_refl _)).more (hbb).size⟩
            · go_wp2_with fail
              go_meet
              case rel => exact ⟨by simp, hW9.trans ((hba).mono hW9.size), (ha9.below (hba) (Nat.le_refl _)).more (hba).size, (hd9.below (hba) (Nat.le_refl _)).more (hba).size⟩
          case rest =>
            obtain ⟨hs66, hWb, hab_, hdb⟩ := hcut
            clear hW9 ha9 hd9 hsn1 hsn2
            generalize (x1 || x2) = x at *
            subst hs66
            go_upto_if 66 with fail
            go_cut [11] (fun s' wx => s' = .bool (g1 && !x) ∧ Below w.heap.size w wx ∧ ReadL encD wx wx.heap.size Aa D1 ∧ ReadL encD wx wx.heap.size Ab D2)
            case first =>
              clear hso hsl hsm HU3
              cases x
              all_goals
                go_wp2_with fail
                go_meet
                case rel => exact ⟨by simp, hWb, hab_, hdb⟩
            case rest =>
              obtain ⟨hs11, hWc, hac, hdc⟩ := hcut
              clear hWb hab_ hdb
              generalize (g1 && !x) = g2 at *
              subst hs11
              go_upto_region 10 with (go_at_call 28; refine (hsm _ hac).mono ?_; rintro e wd ⟨rfl, hbd⟩)
              have hWd := hWc.trans (hbd.mono hWc.size)
              have had := (hac.below hbd (Nat.le_refl _)).more hbd.size
              have hdd := (hdc.below hbd (Nat.le_refl _)).more hbd.size
              clear hWc hac hdc hbd hsm
              go_cut [77] (fun s' wx => s' = .bool (hm && decide (ms < age)) ∧ Below w.heap.size w wx ∧ ReadL encD wx wx.heap.size Aa D1 ∧ ReadL encD wx wx.heap.size Ab D2)
              case first =>
                clear hso hsl HU3
                cases hm
                · go_wp2_with fail
                  go_meet
                  case rel => exact ⟨by simp, hWd, had, hdd⟩
                · go_wp2_with fail
                  go_meet
                  case rel => exact ⟨by simp, hWd, had, hdd⟩
              case rest =>
                obtain ⟨hs77, hWe, hae, hde⟩ := hcut
                clear hWd had hdd
                generalize (hm && decide (ms < age)) = y at *
                subst hs77
                go_upto_if 77 with fail
                go_cut [11] (fun s' wx => s' = .bool (g2 && !y) ∧ Below w.heap.size w wx ∧ ReadL encD wx wx.heap.size Aa D1 ∧ ReadL encD wx wx.heap.size Ab D2)
                case first =>
                  clear hso hsl HU3
                  cases y
                  all_goals
                    go_wp2_with fail
                    go_meet
                    case rel => exact ⟨by simp, hWe, hae, hde⟩
                case rest =>
                  obtain ⟨hs11, hWf, haf, hdf⟩ := hcut
                  clear hWe hae hde
                  generalize (g2 && !y) = g3 at *
                  subst hs11
                  go_upto_region 13 with (go_at_call 28; refine (hsl _ haf).mono ?_; rintro e wg ⟨rfl, hbg⟩)
                  have hWg := hWf.trans (hbg.mono hWf.size)
                  have hag := (haf.below hbg (Nat.le_refl _)).more hbg.size
                  have hdg := (hdf.below hbg (Nat.le_refl _)).more hbg.size
                  clear hWf haf hdf hbg hsl
                  go_cut [90] (fun s' wx => s' = .bool (hl && decide (life - age < ls)) ∧ Below w.heap.size w wx ∧ ReadL encD wx wx.heap.size Aa D1 ∧ ReadL encD wx wx.heap.size Ab D2)
                  case first =>
                    clear hso HU3
                    cases hl
                    · go_wp2_with fail
                      go_meet
                      case rel => exact ⟨by simp, hWg, hag, hdg⟩
                    · go_wp2_with fail
                      go_meet
                      case rel => exact ⟨by simp, hWg, hag, hdg⟩
                  case rest =>
                    obtain ⟨hs90, hWh, hah, hdh⟩ := hcut
                    clear hWg hag hdg
                    generalize (hl && decide (life - age < ls)) = z at *
                    subst hs90
                    go_upto_if 90 with fail
                    go_cut [11] (fun s' wx => s' = .bool (g3 && !z) ∧ Below w.heap.size w wx ∧ ReadL encD wx wx.heap.size Aa D1 ∧ ReadL encD wx wx.heap.size Ab D2)
                    case first =>
                      clear hso HU3
                      cases z
                      all_goals
                        go_wp2_with fail
                        go_meet
                        case rel => exact ⟨by simp, hWh, hah, hdh⟩
                    case rest =>
                      obtain ⟨hs11, hWi, hai, hdi⟩ := hcut
                      clear hWh hah hdh
                      generalize (g3 && !z) = g4 at *
                      subst hs11
                      cases g4
                      · go_wp2_with fail
                        refine (hso _ hai).mono ?_
                        rintro e wj ⟨rfl, hbj⟩
                        cases o
                        all_goals
                          go_wp2_with fail
                          go_ret
                          rw [← HU3.out]
                          exact ⟨rfl, hWi.trans (hbj.mono hWi.size)⟩
                      · go_wp2_with fail
                        go_ret
                        rw [← HU3.out]
                        exact ⟨rfl, hWi⟩
end Go.Proofs.YtcoghpokkhjhgaaGreatDoor
