/- Walk: fresh.Use. -/
import Derived.Test.YtcoghpokkhjhgaaGreatDoorWStale
import Derived.Test.YtcoghpokkhjhgaaGreatDoorWLife
import Derived.LoopN
import Derived.Deep.RegionWith
import Derived.Deep.RegionHeld3
import Derived.Deep.QuietTactic
import Derived.BigQuiet
namespace Go.Proofs.YtcoghpokkhjhgaaGreatDoor
open Go.RowKit Go.Larder
set_option linter.unusedVariables false
set_option linter.unusedSimpArgs false
set_option maxHeartbeats 8000000 in
set_option maxRecDepth 100000 in
theorem w_Use (l1 : List Fld) (hj1 : (l1.map (fun f => f.1.length + f.2.length + 3)).sum ≤ 1048576) (A1 : Option Addr) (n1 : Nat) (l : List Fld) (hj : (l.map (fun f => f.1.length + f.2.length + 3)).sum ≤ 1048576) (A : Option Addr) (c : Nat) (w : World) (hr1 : ReadL encF w w.heap.size A1 l1) (hr : ReadL encF w w.heap.size A l) (hP : PW w) (hM : ML w) (c0 c1 c2 c3 : Value) (code : Int) (c5 c7 c10 : Value) (ak cm nw : Int) :
    Calls Tryz.prog 7 #[.slice A1 l1.length n1, .agg (heldC c0 c1 c2 c3 (.int .i64 code) c5 A l.length c c7 ak cm c10).toArray, .int .i64 nw] w fun e w' => e = .returned (.int .i64 (useE l1 l code cm ak nw)) ∧ Below w.heap.size w w' := by
  have hb0 : Below w.heap.size w (w.alloc (.cells (heldC c0 c1 c2 c3 (.int .i64 code) c5 A l.length c c7 ak cm c10).toArray 30)) := (Below.refl _ _).alloc (Nat.le_refl _) _
  have bx := BoxAt.new w (heldC c0 c1 c2 c3 (.int .i64 code) c5 A l.length c c7 ak cm c10) 30
  have hr0 := (hr.alloc (Nat.le_refl _) (.cells (heldC c0 c1 c2 c3 (.int .i64 code) c5 A l.length c c7 ak cm c10).toArray 30)).more (B' := (w.alloc (.cells (heldC c0 c1 c2 c3 (.int .i64 code) c5 A l.length c c7 ak cm c10).toArray 30)).heap.size) (by simp)
  have hr10 := (hr1.alloc (Nat.le_refl _) (.cells (heldC c0 c1 c2 c3 (.int .i64 code) c5 A l.length c c7 ak cm c10).toArray 30)).more (B' := (w.alloc (.cells (heldC c0 c1 c2 c3 (.int .i64 code) c5 A l.length c c7 ak cm c10).toArray 30)).heap.size) (by simp)
  have hP0 := hP.keep hb0
  have hM0 := hM.keep hb0
  have hdA := fun W hrW => w_directives l1 hj1 A1 n1 W hrW
  have hdB := fun W hrW => w_directives l hj A c W hrW
  have hli := fun W hrW hPW hMW => w_Life l hj A c W hrW hPW hMW c0 c1 c2 c3 code c5 c7 c10 ak cm
  have hag := fun W hrW hPW hMW => w_Age l hj A c W hrW hPW hMW c0 c1 c2 c3 (.int .i64 code) c5 c7 c10 ak cm nw
  obtain ⟨d1a, d1b⟩ := dirsE_bd l1
  obtain ⟨d2a, d2b⟩ := dirsE_bd l
  have hlb := lifeE_bd l code cm
  have hab := ageE_bd l ak cm nw
  have hx1 : ∀ d ∈ dirsE l1, d.2.2.length ≤ 140737488351232 := fun d hd => by have := d1b d hd; omega
  unfold useE
  generalize lifeE l code cm = life at *
  generalize ageE l ak cm nw = age at *
  generalize dirsE l1 = D1 at *
  generalize dirsE l = D2 at *
  have hsc := fun n A' c' W hrW => w_Seconds n D1 (by omega) hx1 A' c' W hrW
  clear hj hj1 d1b d2b
  obtain ⟨U, hU⟩ : ∃ U, useI ((findD ncN D1).2 || (findD ncN D2).2) (findD maN D1).2 (secs (findD maN D1).1.2.2) (findD mfN D1).2 (secs (findD mfN D1).1.2.2) (someD [mrN, prN, smN, ncN] D2) (staleI (findD msN D1) (age - life)) life age (findD oicN D1).2 = U := ⟨_, rfl⟩
  rw [hU]
  have HU := Lib.hid hU
  clear hU
  unfold heldC at *
  go_enter Tryz.func7, Tryz.ntmps7
  go_wp2_with fail
  have hbwA : Below w.heap.size w (w.alloc (.cells #[c0, c1, c2, c3, .int .i64 code, c5, .slice A l.length c, c7, .int .i64 ak, .int .i64 cm, c10] 30)).drew := hb0.drew
  have bxA : BoxAt (w.alloc (.cells #[c0, c1, c2, c3, .int .i64 code, c5, .slice A l.length c, c7, .int .i64 ak, .int .i64 cm, c10] 30)).drew w.heap.size 30 [c0, c1, c2, c3, .int .i64 code, c5, .slice A l.length c, c7, .int .i64 ak, .int .i64 cm, c10] := bx
  have hPA : PW (w.alloc (.cells #[c0, c1, c2, c3, .int .i64 code, c5, .slice A l.length c, c7, .int .i64 ak, .int .i64 cm, c10] 30)).drew := hP0
  have hMA : ML (w.alloc (.cells #[c0, c1, c2, c3, .int .i64 code, c5, .slice A l.length c, c7, .int .i64 ak, .int .i64 cm, c10] 30)).drew := hM0
  have hrA : ReadL encF (w.alloc (.cells #[c0, c1, c2, c3, .int .i64 code, c5, .slice A l.length c, c7, .int .i64 ak, .int .i64 cm, c10] 30)).drew (w.alloc (.cells #[c0, c1, c2, c3, .int .i64 code, c5, .slice A l.length c, c7, .int .i64 ak, .int .i64 cm, c10] 30)).drew.heap.size A l := hr0
  have hsA : ReadL encF (w.alloc (.cells #[c0, c1, c2, c3, .int .i64 code, c5, .slice A l.length c, c7, .int .i64 ak, .int .i64 cm, c10] 30)).drew (w.alloc (.cells #[c0, c1, c2, c3, .int .i64 code, c5, .slice A l.length c, c7, .int .i64 ak, .int .i64 cm, c10] 30)).drew.heap.size A1 l1 := hr10
  have p6 := bx.cell (j := 6) rfl
  have hsz0 : w.heap.size < (w.alloc (.cells #[c0, c1, c2, c3, .int .i64 code, c5, .slice A l.length c, c7, .int .i64 ak, .int .i64 cm, c10] 30)).heap.size := by simp
  clear hb0 bx hP0 hM0 hr0 hr10 hr hr1 hP hM
  generalize (w.alloc (.cells #[c0, c1, c2, c3, .int .i64 code, c5, .slice A l.length c, c7, .int .i64 ak, .int .i64 cm, c10] 30)) = WA at *
  have p6d : WA.drew.cell? ⟨w.heap.size, 6, none⟩ = some (.slice A l.length c) := p6
  go_region_held3 (fun w' => w'.cell? ⟨w.heap.size, 6, none⟩ = some (.slice A l.length c)) ((first | exact p6 | exact p6d | exact q6 | exact q7 | assumption)) (first
    | (go_at_call 16; (with_reducible refine Calls.mono (hdA WA.drew hsA) ?_); rintro e w2 ⟨Aa, ca, rfl, hda, hb2⟩; have hbwB := hbwA.trans ((hb2).mono hbwA.size); have bxB := bxA.keep (hb2); have hMB := hMA.keep (hb2); have hPB := hPA.keep (hb2); have hrB := (hrA.below (hb2) (Nat.le_refl _)).more (hb2).size; have hsB := (hsA.below (hb2) (Nat.le_refl _)).more (hb2).size; have q6 := bxB.cell (j := 6) rfl)
    | (go_at_call 16; (with_reducible refine Calls.mono (hdB w2 hrB) ?_); rintro e w3 ⟨Ab, cb, rfl, hdb, hb3⟩; have hbwC := hbwB.trans ((hb3).mono hbwB.size); have bxC := bxB.keep (hb3); have hMC := hMB.keep (hb3); have hPC := hPB.keep (hb3); have hrC := (hrB.below (hb3) (Nat.le_refl _)).more (hb3).size; have hsC := (hsB.below (hb3) (Nat.le_refl _)).more (hb3).size; have q7 := bxC.cell (j := 6) rfl))
  all_goals
    have hda3 := (hda.below hb3 (Nat.le_refl _)).more hb3.size
    clear hbwA bxA hMA hPA hrA hsA hbwB bxB hMB hPB hrB hsB hb2 hb3 hda p6 p6d q6 q7 hdA hdB
    have hbwD := hbwC.drew
    have bxD := bxC.drew
    have hMD : ML w3.drew := hMC
    have hPD : PW w3.drew := hPC
    have hrD : ReadL encF w3.drew w3.drew.heap.size A l := hrC
    have r0 := bxC.cell (j := 0) rfl
    have r1 := bxC.cell (j := 1) rfl
    have r2 := bxC.cell (j := 2) rfl
    have r3 := bxC.cell (j := 3) rfl
    have r4 := bxC.cell (j := 4) rfl
    have r5 := bxC.cell (j := 5) rfl
    have r6 := bxC.cell (j := 6) rfl
    have r7 := bxC.cell (j := 7) rfl
    have r8 := bxC.cell (j := 8) rfl
    have r9 := bxC.cell (j := 9) rfl
    have r10 := bxC.cell (j := 10) rfl
    go_wp2_with fail
    go_region_held3 (fun w' => w'.cell? ⟨w.heap.size, 0, none⟩ = some (c0) ∧ w'.cell? ⟨w.heap.size, 1, none⟩ = some (c1) ∧ w'.cell? ⟨w.heap.size, 2, none⟩ = some (c2) ∧ w'.cell? ⟨w.heap.size, 3, none⟩ = some (c3) ∧ w'.cell? ⟨w.heap.size, 4, none⟩ = some (.int .i64 code) ∧ w'.cell? ⟨w.heap.size, 5, none⟩ = some (c5) ∧ w'.cell? ⟨w.heap.size, 6, none⟩ = some (.slice A l.length c) ∧ w'.cell? ⟨w.heap.size, 7, none⟩ = some (c7) ∧ w'.cell? ⟨w.heap.size, 8, none⟩ = some (.int .i64 ak) ∧ w'.cell? ⟨w.heap.size, 9, none⟩ = some (.int .i64 cm) ∧ w'.cell? ⟨w.heap.size, 10, none⟩ = some (c10)) ((first | exact ⟨r0, r1, r2, r3, r4, r5, r6, r7, r8, r9, r10⟩ | exact ⟨s0, s1, s2, s3, s4, s5, s6, s7, s8, s9, s10⟩ | exact ⟨z0, z1, z2, z3, z4, z5, z6, z7, z8, z9, z10⟩ | assumption)) (first
      | (go_at_call 17; (with_reducible refine Calls.mono (hli w3.drew hrD hPD hMD) ?_); rintro e w4 ⟨rfl, hb4⟩; have hbwE := hbwD.trans ((hb4).mono hbwD.size); have bxE := bxD.keep (hb4); have hME := hMD.keep (hb4); have hPE := hPD.keep (hb4); have hrE := (hrD.below (hb4) (Nat.le_refl _)).more (hb4).size; have s0 := bxE.cell (j := 0) rfl; have s1 := bxE.cell (j := 1) rfl; have s2 := bxE.cell (j := 2) rfl; have s3 := bxE.cell (j := 3) rfl; have s4 := bxE.cell (j := 4) rfl; have s5 := bxE.cell (j := 5) rfl; have s6 := bxE.cell (j := 6) rfl; have s7 := bxE.cell (j := 7) rfl; have s8 := bxE.cell (j := 8) rfl; have s9 := bxE.cell (j := 9) rfl; have s10 := bxE.cell (j := 10) rfl)
      | (go_at_call 18; (with_reducible refine Calls.mono (hag w4 hrE hPE hME) ?_); rintro e w5 ⟨rfl, hb5⟩; have hbwF := hbwE.trans ((hb5).mono hbwE.size); have bxF := bxE.keep (hb5); have hMF := hME.keep (hb5); have hPF := hPE.keep (hb5); have hrF := (hrE.below (hb5) (Nat.le_refl _)).more (hb5).size; have z0 := bxF.cell (j := 0) rfl; have z1 := bxF.cell (j := 1) rfl; have z2 := bxF.cell (j := 2) rfl; have z3 := bxF.cell (j := 3) rfl; have z4 := bxF.cell (j := 4) rfl; have z5 := bxF.cell (j := 5) rfl; have z6 := bxF.cell (j := 6) rfl; have z7 := bxF.cell (j := 7) rfl; have z8 := bxF.cell (j := 8) rfl; have z9 := bxF.cell (j := 9) rfl; have z10 := bxF.cell (j := 10) rfl))
    all_goals
      have hda3D : ReadL encD w3.drew w3.drew.heap.size Aa D1 := hda3
      have hdbD : ReadL encD w3.drew w3.drew.heap.size Ab D2 := hdb
      have hda5 := (hda3D.below hb4 (Nat.le_refl _)).more hb4.size
      have hda6 := (hda5.below hb5 (Nat.le_refl _)).more hb5.size
      have hdb5 := (hdbD.below hb4 (Nat.le_refl _)).more hb4.size
      have hdb6 := (hdb5.below hb5 (Nat.le_refl _)).more hb5.size
      clear hda3 hda3D hda5 hdb hdbD hdb5 hbwC bxC hMC hPC hrC hsC hbwD bxD hMD hPD hrD hbwE bxE hME hPE hrE hb4 hb5 hli hag
      clear r0 r1 r2 r3 r4 r5 r6 r7 r8 r9 r10 s0 s1 s2 s3 s4 s5 s6 s7 s8 s9 s10 z0 z1 z2 z3 z4 z5 z6 z7 z8 z9 z10
      have hbl : Below w5.heap.size w5 (w5.alloc (.cells #[S [109, 117, 115, 116, 45, 114, 101, 118, 97, 108, 105, 100, 97, 116, 101], S [112, 114, 111, 120, 121, 45, 114, 101, 118, 97, 108, 105, 100, 97, 116, 101], S [115, 45, 109, 97, 120, 97, 103, 101], S [110, 111, 45, 99, 97, 99, 104, 101]] 9)) := (Below.refl _ _).alloc (Nat.le_refl _) _
      have hlit : ReadL encS (w5.alloc (.cells #[S [109, 117, 115, 116, 45, 114, 101, 118, 97, 108, 105, 100, 97, 116, 101], S [112, 114, 111, 120, 121, 45, 114, 101, 118, 97, 108, 105, 100, 97, 116, 101], S [115, 45, 109, 97, 120, 97, 103, 101], S [110, 111, 45, 99, 97, 99, 104, 101]] 9)) (w5.heap.size + 1) (some ⟨w5.heap.size, 0, none⟩) [mrN, prN, smN, ncN] := ReadL.lit (E := encS) w5 #[S [109, 117, 115, 116, 45, 114, 101, 118, 97, 108, 105, 100, 97, 116, 101], S [112, 114, 111, 120, 121, 45, 114, 101, 118, 97, 108, 105, 100, 97, 116, 101], S [115, 45, 109, 97, 120, 97, 103, 101], S [110, 111, 45, 99, 97, 99, 104, 101]] _ [mrN, prN, smN, ncN] rfl
      have hszl : (w5.alloc (.cells #[S [109, 117, 115, 116, 45, 114, 101, 118, 97, 108, 105, 100, 97, 116, 101], S [112, 114, 111, 120, 121, 45, 114, 101, 118, 97, 108, 105, 100, 97, 116, 101], S [115, 45, 109, 97, 120, 97, 103, 101], S [110, 111, 45, 99, 97, 99, 104, 101]] 9)).heap.size = w5.heap.size + 1 := by simp
      have hbwG := hbwF.trans (hbl.mono hbwF.size)
      have hdaG := (hda6.below hbl (Nat.le_refl _)).more hbl.size
      have hdbG := (hdb6.below hbl (Nat.le_refl _)).more hbl.size
      have hhas := fun n A' c' W hrW => w_Has n D2 (by omega) A' c' W hrW
      clear hbwF bxF hMF hPF hrF hda6 hdb6 hbl
      go_wp2_with fail
      rw [← hszl] at hlit
      generalize w5.alloc (.cells #[S [109, 117, 115, 116, 45, 114, 101, 118, 97, 108, 105, 100, 97, 116, 101], S [112, 114, 111, 120, 121, 45, 114, 101, 118, 97, 108, 105, 100, 97, 116, 101], S [115, 45, 109, 97, 120, 97, 103, 101], S [110, 111, 45, 99, 97, 99, 104, 101]] 9) = WL at *
      clear hszl
      go_loopw [11, 31] (fun b' i' wr => ∃ k : Nat, i' = .int .i64 k ∧ k ≤ 4 ∧ b' = .bool (someD ([mrN, prN, smN, ncN].take k) D2) ∧ Below WL.heap.size WL wr) (fun _ i' _ => 4 - (intOf i').toNat)
      case atStart => exact ⟨0, rfl, by omega, rfl, Below.refl _ _⟩
      case round =>
        obtain ⟨k, rfl, hk, rfl, hbel⟩ := hrel
        by_cases hlt : k < 4
        · obtain ⟨n, hx, -⟩ := drop_step (l := [mrN, prN, smN, ncN]) (k := k) hlt
          have hsn : someD ([mrN, prN, smN, ncN].take (k + 1)) D2 = (someD ([mrN, prN, smN, ncN].take k) D2 || (findD n D2).2) := by
            rw [List.take_add_one, hx]; simp [someD]
          obtain ⟨g, off, hA, hgb, hc0⟩ := (hlit.below hbel (Nat.le_refl _)).at_S hx
          injection hA with hA
          injection hA with e1 e2
          subst e1 e2
          rw [Nat.zero_add] at hc0
          have hh := hhas n Ab cb wr ((hdbG.below hbel (Nat.le_refl _)).more hbel.size)
          generalize (findD n D2).2 = fb at *
          generalize someD ([mrN, prN, smN, ncN].take k) D2 = pb at *
          have Hsn := Lib.hid hsn
          clear hsn hx
          cases pb
          · go_wp2_with fail
            refine hh.mono ?_
            rintro e w6 ⟨rfl, hb6⟩
            go_wp2_with fail
            go_roundw
            case rel => exact ⟨k + 1, by go_num, by omega, by rw [Hsn.out]; simp, hbel.trans (hb6.mono hbel.size)⟩
            case measure => simp [intOf]; omega
          · go_wp2_with fail
            go_roundw
            case rel => exact ⟨k + 1, by go_num, by omega, by rw [Hsn.out]; simp, hbel⟩
            case measure => simp [intOf]; omega
        · obtain rfl : k = 4 := by omega
          rw [show [mrN, prN, smN, ncN].take 4 = [mrN, prN, smN, ncN] from rfl]
          have hbwH := hbwG.trans (hbel.mono hbwG.size)
          have hdaH := (hdaG.below hbel (Nat.le_refl _)).more hbel.size
          have hdbH := (hdbG.below hbel (Nat.le_refl _)).more hbel.size
          have hha := fun n A' c' W hrW => w_Has n D1 (by omega) A' c' W hrW
          have hst := fun A' c' W hrW => w_stale D1 (by omega) hx1 (age - life) A' c' W hrW
          have hsl := hsc mfN
          have hsm := hsc maN
          have hn1 := hha ncN
          have hn2 := hhas ncN
          have hoi := hha oicN
          clear hsc hha hhas hlit hdaG hdbG hbwG hbel
          have hW := hbwH
          generalize (findD ncN D1).2 = x1 at *
          generalize (findD ncN D2).2 = x2 at *
          generalize (findD maN D1).2 = hm at *
          generalize secs (findD maN D1).1.2.2 = ms at *
          generalize (findD mfN D1).2 = hl at *
          generalize secs (findD mfN D1).1.2.2 = ls at *
          generalize someD [mrN, prN, smN, ncN] D2 = bd at *
          generalize staleI (findD msN D1) (age - life) = st at *
          generalize (findD oicN D1).2 = o at *
          have v1 : IntKind.i64.wrap (life - age) = life - age := IntWalk.i64_in _ ⟨by omega, by omega⟩
          have v2 : IntKind.i64.wrap (age - life) = age - life := IntWalk.i64_in _ ⟨by omega, by omega⟩
          have hWw5 := hbwH
          have haw5 := hdaH
          have hdw5 := hdbH
          clear hbwH hdaH hdbH hW hx1
          go_wp2_with fail
          refine (hsl _ _ _ haw5).mono ?_
          rintro e w6 ⟨rfl, hbw6⟩
          have hWw6 := hWw5.trans (hbw6.mono hWw5.size)
          have haw6 := (haw5.below hbw6 (Nat.le_refl _)).more hbw6.size
          have hdw6 := (hdw5.below hbw6 (Nat.le_refl _)).more hbw6.size
          clear hWw5 haw5 hdw5 hbw6
          go_wp2_with fail
          refine (hsm _ _ _ haw6).mono ?_
          rintro e w7 ⟨rfl, hbw7⟩
          have hWw7 := hWw6.trans (hbw7.mono hWw6.size)
          have haw7 := (haw6.below hbw7 (Nat.le_refl _)).more hbw7.size
          have hdw7 := (hdw6.below hbw7 (Nat.le_refl _)).more hbw7.size
          clear hWw6 haw6 hdw6 hbw7
          go_wp2_with fail
          refine (hn1 _ _ _ haw7).mono ?_
          rintro e w8 ⟨rfl, hbw8⟩
          have hWw8 := hWw7.trans (hbw8.mono hWw7.size)
          have haw8 := (haw7.below hbw8 (Nat.le_refl _)).more hbw8.size
          have hdw8 := (hdw7.below hbw8 (Nat.le_refl _)).more hbw8.size
          clear hWw7 haw7 hdw7 hbw8
          cases x1
          · go_wp2_with fail
            refine (hn2 _ _ _ hdw8).mono ?_
            rintro e w9 ⟨rfl, hbw9⟩
            have hWw9 := hWw8.trans (hbw9.mono hWw8.size)
            have haw9 := (haw8.below hbw9 (Nat.le_refl _)).more hbw9.size
            have hdw9 := (hdw8.below hbw9 (Nat.le_refl _)).more hbw9.size
            clear hWw8 haw8 hdw8 hbw9
            cases x2
            · cases hm
              · cases hl
                · cases hg : decide (age < life)
                  · cases bd
                    · go_wp2_with fail
                      refine (hst _ _ _ haw9).mono ?_
                      rintro e wa ⟨rfl, hbwa⟩
                      have hWwa := hWw9.trans (hbwa.mono hWw9.size)
                      have hawa := (haw9.below hbwa (Nat.le_refl _)).more hbwa.size
                      have hdwa := (hdw9.below hbwa (Nat.le_refl _)).more hbwa.size
                      clear hWw9 haw9 hdw9 hbwa
                      cases st
                      · go_wp2_with fail
                        refine (hoi _ _ _ hawa).mono ?_
                        rintro e ywa ⟨rfl, hbywa⟩
                        have hWywa := hWwa.trans (hbywa.mono hWwa.size)
                        have haywa := (hawa.below hbywa (Nat.le_refl _)).more hbywa.size
                        have hdywa := (hdwa.below hbywa (Nat.le_refl _)).more hbywa.size
                        clear hWwa hawa hdwa hbywa
                        cases o
                        · have HU2 := Lib.hid (show U = 2 from by rw [← HU.out]; simp [useI, *])
                          clear HU
                          go_wp2_with fail
                          go_ret
                          rw [HU2.out]
                          exact ⟨rfl, hWywa⟩
                        · have HU2 := Lib.hid (show U = 3 from by rw [← HU.out]; simp [useI, *])
                          clear HU
                          go_wp2_with fail
                          go_ret
                          rw [HU2.out]
                          exact ⟨rfl, hWywa⟩
                      · have HU2 := Lib.hid (show U = 1 from by rw [← HU.out]; simp [useI, *])
                        clear HU
                        go_wp2_with fail
                        go_ret
                        rw [HU2.out]
                        exact ⟨rfl, hWwa⟩
                    · go_wp2_with fail
                      refine (hoi _ _ _ haw9).mono ?_
                      rintro e yw9 ⟨rfl, hbyw9⟩
                      have hWyw9 := hWw9.trans (hbyw9.mono hWw9.size)
                      have hayw9 := (haw9.below hbyw9 (Nat.le_refl _)).more hbyw9.size
                      have hdyw9 := (hdw9.below hbyw9 (Nat.le_refl _)).more hbyw9.size
                      clear hWw9 haw9 hdw9 hbyw9
                      cases o
                      · have HU2 := Lib.hid (show U = 2 from by rw [← HU.out]; simp [useI, *])
                        clear HU
                        go_wp2_with fail
                        go_ret
                        rw [HU2.out]
                        exact ⟨rfl, hWyw9⟩
                      · have HU2 := Lib.hid (show U = 3 from by rw [← HU.out]; simp [useI, *])
                        clear HU
                        go_wp2_with fail
                        go_ret
                        rw [HU2.out]
                        exact ⟨rfl, hWyw9⟩
                  · have HU2 := Lib.hid (show U = 1 from by rw [← HU.out]; simp [useI, *])
                    clear HU
                    go_wp2_with fail
                    go_ret
                    rw [HU2.out]
                    exact ⟨rfl, hWw9⟩
                · cases ht2 : decide (life - age < ls)
                  · cases hg : decide (age < life)
                    · cases bd
                      · go_wp2_with fail
                        refine (hst _ _ _ haw9).mono ?_
                        rintro e wa ⟨rfl, hbwa⟩
                        have hWwa := hWw9.trans (hbwa.mono hWw9.size)
                        have hawa := (haw9.below hbwa (Nat.le_refl _)).more hbwa.size
                        have hdwa := (hdw9.below hbwa (Nat.le_refl _)).more hbwa.size
                        clear hWw9 haw9 hdw9 hbwa
                        cases st
                        · go_wp2_with fail
                          refine (hoi _ _ _ hawa).mono ?_
                          rintro e ywa ⟨rfl, hbywa⟩
                          have hWywa := hWwa.trans (hbywa.mono hWwa.size)
                          have haywa := (hawa.below hbywa (Nat.le_refl _)).more hbywa.size
                          have hdywa := (hdwa.below hbywa (Nat.le_refl _)).more hbywa.size
                          clear hWwa hawa hdwa hbywa
                          cases o
                          · have HU2 := Lib.hid (show U = 2 from by rw [← HU.out]; simp [useI, *])
                            clear HU
                            go_wp2_with fail
                            go_ret
                            rw [HU2.out]
                            exact ⟨rfl, hWywa⟩
                          · have HU2 := Lib.hid (show U = 3 from by rw [← HU.out]; simp [useI, *])
                            clear HU
                            go_wp2_with fail
                            go_ret
                            rw [HU2.out]
                            exact ⟨rfl, hWywa⟩
                        · have HU2 := Lib.hid (show U = 1 from by rw [← HU.out]; simp [useI, *])
                          clear HU
                          go_wp2_with fail
                          go_ret
                          rw [HU2.out]
                          exact ⟨rfl, hWwa⟩
                      · go_wp2_with fail
                        refine (hoi _ _ _ haw9).mono ?_
                        rintro e yw9 ⟨rfl, hbyw9⟩
                        have hWyw9 := hWw9.trans (hbyw9.mono hWw9.size)
                        have hayw9 := (haw9.below hbyw9 (Nat.le_refl _)).more hbyw9.size
                        have hdyw9 := (hdw9.below hbyw9 (Nat.le_refl _)).more hbyw9.size
                        clear hWw9 haw9 hdw9 hbyw9
                        cases o
                        · have HU2 := Lib.hid (show U = 2 from by rw [← HU.out]; simp [useI, *])
                          clear HU
                          go_wp2_with fail
                          go_ret
                          rw [HU2.out]
                          exact ⟨rfl, hWyw9⟩
                        · have HU2 := Lib.hid (show U = 3 from by rw [← HU.out]; simp [useI, *])
                          clear HU
                          go_wp2_with fail
                          go_ret
                          rw [HU2.out]
                          exact ⟨rfl, hWyw9⟩
                    · have HU2 := Lib.hid (show U = 1 from by rw [← HU.out]; simp [useI, *])
                      clear HU
                      go_wp2_with fail
                      go_ret
                      rw [HU2.out]
                      exact ⟨rfl, hWw9⟩
                  · go_wp2_with fail
                    refine (hoi _ _ _ haw9).mono ?_
                    rintro e yw9 ⟨rfl, hbyw9⟩
                    have hWyw9 := hWw9.trans (hbyw9.mono hWw9.size)
                    have hayw9 := (haw9.below hbyw9 (Nat.le_refl _)).more hbyw9.size
                    have hdyw9 := (hdw9.below hbyw9 (Nat.le_refl _)).more hbyw9.size
                    clear hWw9 haw9 hdw9 hbyw9
                    cases o
                    · have HU2 := Lib.hid (show U = 2 from by rw [← HU.out]; simp [useI, *])
                      clear HU
                      go_wp2_with fail
                      go_ret
                      rw [HU2.out]
                      exact ⟨rfl, hWyw9⟩
                    · have HU2 := Lib.hid (show U = 3 from by rw [← HU.out]; simp [useI, *])
                      clear HU
                      go_wp2_with fail
                      go_ret
                      rw [HU2.out]
                      exact ⟨rfl, hWyw9⟩
              · cases ht1 : decide (ms < age)
                · cases hl
                  · cases hg : decide (age < life)
                    · cases bd
                      · go_wp2_with fail
                        refine (hst _ _ _ haw9).mono ?_
                        rintro e wa ⟨rfl, hbwa⟩
                        have hWwa := hWw9.trans (hbwa.mono hWw9.size)
                        have hawa := (haw9.below hbwa (Nat.le_refl _)).more hbwa.size
                        have hdwa := (hdw9.below hbwa (Nat.le_refl _)).more hbwa.size
                        clear hWw9 haw9 hdw9 hbwa
                        cases st
                        · go_wp2_with fail
                          refine (hoi _ _ _ hawa).mono ?_
                          rintro e ywa ⟨rfl, hbywa⟩
                          have hWywa := hWwa.trans (hbywa.mono hWwa.size)
                          have haywa := (hawa.below hbywa (Nat.le_refl _)).more hbywa.size
                          have hdywa := (hdwa.below hbywa (Nat.le_refl _)).more hbywa.size
                          clear hWwa hawa hdwa hbywa
                          cases o
                          · have HU2 := Lib.hid (show U = 2 from by rw [← HU.out]; simp [useI, *])
                            clear HU
                            go_wp2_with fail
                            go_ret
                            rw [HU2.out]
                            exact ⟨rfl, hWywa⟩
                          · have HU2 := Lib.hid (show U = 3 from by rw [← HU.out]; simp [useI, *])
                            clear HU
                            go_wp2_with fail
                            go_ret
                            rw [HU2.out]
                            exact ⟨rfl, hWywa⟩
                        · have HU2 := Lib.hid (show U = 1 from by rw [← HU.out]; simp [useI, *])
                          clear HU
                          go_wp2_with fail
                          go_ret
                          rw [HU2.out]
                          exact ⟨rfl, hWwa⟩
                      · go_wp2_with fail
                        refine (hoi _ _ _ haw9).mono ?_
                        rintro e yw9 ⟨rfl, hbyw9⟩
                        have hWyw9 := hWw9.trans (hbyw9.mono hWw9.size)
                        have hayw9 := (haw9.below hbyw9 (Nat.le_refl _)).more hbyw9.size
                        have hdyw9 := (hdw9.below hbyw9 (Nat.le_refl _)).more hbyw9.size
                        clear hWw9 haw9 hdw9 hbyw9
                        cases o
                        · have HU2 := Lib.hid (show U = 2 from by rw [← HU.out]; simp [useI, *])
                          clear HU
                          go_wp2_with fail
                          go_ret
                          rw [HU2.out]
                          exact ⟨rfl, hWyw9⟩
                        · have HU2 := Lib.hid (show U = 3 from by rw [← HU.out]; simp [useI, *])
                          clear HU
                          go_wp2_with fail
                          go_ret
                          rw [HU2.out]
                          exact ⟨rfl, hWyw9⟩
                    · have HU2 := Lib.hid (show U = 1 from by rw [← HU.out]; simp [useI, *])
                      clear HU
                      go_wp2_with fail
                      go_ret
                      rw [HU2.out]
                      exact ⟨rfl, hWw9⟩
                  · cases ht2 : decide (life - age < ls)
                    · cases hg : decide (age < life)
                      · cases bd
                        · go_wp2_with fail
                          refine (hst _ _ _ haw9).mono ?_
                          rintro e wa ⟨rfl, hbwa⟩
                          have hWwa := hWw9.trans (hbwa.mono hWw9.size)
                          have hawa := (haw9.below hbwa (Nat.le_refl _)).more hbwa.size
                          have hdwa := (hdw9.below hbwa (Nat.le_refl _)).more hbwa.size
                          clear hWw9 haw9 hdw9 hbwa
                          cases st
                          · go_wp2_with fail
                            refine (hoi _ _ _ hawa).mono ?_
                            rintro e ywa ⟨rfl, hbywa⟩
                            have hWywa := hWwa.trans (hbywa.mono hWwa.size)
                            have haywa := (hawa.below hbywa (Nat.le_refl _)).more hbywa.size
                            have hdywa := (hdwa.below hbywa (Nat.le_refl _)).more hbywa.size
                            clear hWwa hawa hdwa hbywa
                            cases o
                            · have HU2 := Lib.hid (show U = 2 from by rw [← HU.out]; simp [useI, *])
                              clear HU
                              go_wp2_with fail
                              go_ret
                              rw [HU2.out]
                              exact ⟨rfl, hWywa⟩
                            · have HU2 := Lib.hid (show U = 3 from by rw [← HU.out]; simp [useI, *])
                              clear HU
                              go_wp2_with fail
                              go_ret
                              rw [HU2.out]
                              exact ⟨rfl, hWywa⟩
                          · have HU2 := Lib.hid (show U = 1 from by rw [← HU.out]; simp [useI, *])
                            clear HU
                            go_wp2_with fail
                            go_ret
                            rw [HU2.out]
                            exact ⟨rfl, hWwa⟩
                        · go_wp2_with fail
                          refine (hoi _ _ _ haw9).mono ?_
                          rintro e yw9 ⟨rfl, hbyw9⟩
                          have hWyw9 := hWw9.trans (hbyw9.mono hWw9.size)
                          have hayw9 := (haw9.below hbyw9 (Nat.le_refl _)).more hbyw9.size
                          have hdyw9 := (hdw9.below hbyw9 (Nat.le_refl _)).more hbyw9.size
                          clear hWw9 haw9 hdw9 hbyw9
                          cases o
                          · have HU2 := Lib.hid (show U = 2 from by rw [← HU.out]; simp [useI, *])
                            clear HU
                            go_wp2_with fail
                            go_ret
                            rw [HU2.out]
                            exact ⟨rfl, hWyw9⟩
                          · have HU2 := Lib.hid (show U = 3 from by rw [← HU.out]; simp [useI, *])
                            clear HU
                            go_wp2_with fail
                            go_ret
                            rw [HU2.out]
                            exact ⟨rfl, hWyw9⟩
                      · have HU2 := Lib.hid (show U = 1 from by rw [← HU.out]; simp [useI, *])
                        clear HU
                        go_wp2_with fail
                        go_ret
                        rw [HU2.out]
                        exact ⟨rfl, hWw9⟩
                    · go_wp2_with fail
                      refine (hoi _ _ _ haw9).mono ?_
                      rintro e yw9 ⟨rfl, hbyw9⟩
                      have hWyw9 := hWw9.trans (hbyw9.mono hWw9.size)
                      have hayw9 := (haw9.below hbyw9 (Nat.le_refl _)).more hbyw9.size
                      have hdyw9 := (hdw9.below hbyw9 (Nat.le_refl _)).more hbyw9.size
                      clear hWw9 haw9 hdw9 hbyw9
                      cases o
                      · have HU2 := Lib.hid (show U = 2 from by rw [← HU.out]; simp [useI, *])
                        clear HU
                        go_wp2_with fail
                        go_ret
                        rw [HU2.out]
                        exact ⟨rfl, hWyw9⟩
                      · have HU2 := Lib.hid (show U = 3 from by rw [← HU.out]; simp [useI, *])
                        clear HU
                        go_wp2_with fail
                        go_ret
                        rw [HU2.out]
                        exact ⟨rfl, hWyw9⟩
                · go_wp2_with fail
                  refine (hoi _ _ _ haw9).mono ?_
                  rintro e yw9 ⟨rfl, hbyw9⟩
                  have hWyw9 := hWw9.trans (hbyw9.mono hWw9.size)
                  have hayw9 := (haw9.below hbyw9 (Nat.le_refl _)).more hbyw9.size
                  have hdyw9 := (hdw9.below hbyw9 (Nat.le_refl _)).more hbyw9.size
                  clear hWw9 haw9 hdw9 hbyw9
                  cases o
                  · have HU2 := Lib.hid (show U = 2 from by rw [← HU.out]; simp [useI, *])
                    clear HU
                    go_wp2_with fail
                    go_ret
                    rw [HU2.out]
                    exact ⟨rfl, hWyw9⟩
                  · have HU2 := Lib.hid (show U = 3 from by rw [← HU.out]; simp [useI, *])
                    clear HU
                    go_wp2_with fail
                    go_ret
                    rw [HU2.out]
                    exact ⟨rfl, hWyw9⟩
            · go_wp2_with fail
              refine (hoi _ _ _ haw9).mono ?_
              rintro e yw9 ⟨rfl, hbyw9⟩
              have hWyw9 := hWw9.trans (hbyw9.mono hWw9.size)
              have hayw9 := (haw9.below hbyw9 (Nat.le_refl _)).more hbyw9.size
              have hdyw9 := (hdw9.below hbyw9 (Nat.le_refl _)).more hbyw9.size
              clear hWw9 haw9 hdw9 hbyw9
              cases o
              · have HU2 := Lib.hid (show U = 2 from by rw [← HU.out]; simp [useI, *])
                clear HU
                go_wp2_with fail
                go_ret
                rw [HU2.out]
                exact ⟨rfl, hWyw9⟩
              · have HU2 := Lib.hid (show U = 3 from by rw [← HU.out]; simp [useI, *])
                clear HU
                go_wp2_with fail
                go_ret
                rw [HU2.out]
                exact ⟨rfl, hWyw9⟩
          · go_wp2_with fail
            refine (hoi _ _ _ haw8).mono ?_
            rintro e yw8 ⟨rfl, hbyw8⟩
            have hWyw8 := hWw8.trans (hbyw8.mono hWw8.size)
            have hayw8 := (haw8.below hbyw8 (Nat.le_refl _)).more hbyw8.size
            have hdyw8 := (hdw8.below hbyw8 (Nat.le_refl _)).more hbyw8.size
            clear hWw8 haw8 hdw8 hbyw8
            cases o
            · have HU2 := Lib.hid (show U = 2 from by rw [← HU.out]; simp [useI, *])
              clear HU
              go_wp2_with fail
              go_ret
              rw [HU2.out]
              exact ⟨rfl, hWyw8⟩
            · have HU2 := Lib.hid (show U = 3 from by rw [← HU.out]; simp [useI, *])
              clear HU
              go_wp2_with fail
              go_ret
              rw [HU2.out]
              exact ⟨rfl, hWyw8⟩
end Go.Proofs.YtcoghpokkhjhgaaGreatDoor
