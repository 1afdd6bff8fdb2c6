/- Walks: conditions on a date; cond.Eval. -/
import Derived.Test.YtcoghpokkhjhgaaGreatDoorWCond
import Derived.Test.YtcoghpokkhjhgaaGreatDoorWTagP
import Derived.Test.YtcoghpokkhjhgaaGreatDoorWDtE
import Derived.Deep.DeepCutAuto
namespace Go.Larder
open Go.RowKit
set_option linter.unusedVariables false
def evalI (rd i1 m1 h1 : Bool) (n1 : Int) (i2 m2 h2 : Bool) (n2 md : Int) : Int :=
  if i1 && !m1 then 412 else if !i1 && h1 && decide (n1 < md) then 412 else if i2 && m2 then (if rd then 304 else 412) else if !i2 && h2 && rd && decide (md ≤ n2) then 304 else 0
def rdsB (m : List UInt8) : Bool := m == [71, 69, 84] || m == [72, 69, 65, 68]
def ifmN : List UInt8 := [73, 102, 45, 77, 97, 116, 99, 104]
def inmN : List UInt8 := [73, 102, 45, 78, 111, 110, 101, 45, 77, 97, 116, 99, 104]
def iusN : List UInt8 := [73, 102, 45, 85, 110, 109, 111, 100, 105, 102, 105, 101, 100, 45, 83, 105, 110, 99, 101]
def imsN : List UInt8 := [73, 102, 45, 77, 111, 100, 105, 102, 105, 101, 100, 45, 83, 105, 110, 99, 101]
end Go.Larder
namespace Go.Proofs.YtcoghpokkhjhgaaGreatDoor
open Go.RowKit Go.Larder
set_option linter.unusedVariables false
set_option linter.unusedSimpArgs false
noncomputable def sinceE (nm : List UInt8) (l : List Fld) (there : Bool) (md : Int) : Int × Bool := ((toldE nm l).1, (toldE nm l).2 && there && decide (0 ≤ md))
set_option maxHeartbeats 4000000 in
theorem w_since (nm : List UInt8) (hnm : nm.length ≤ 1000) (l : List Fld) (hj : (l.map (fun f => f.1.length + f.2.length + 3)).sum ≤ 1048576) (A : Option Addr) (c : Nat) (w : World) (hr : ReadL encF w w.heap.size A l) (hP : PW w) (hM : ML w) (there tagged : Bool) (o : Tg) (md : Int) :
    Calls Tryz.prog 12 #[.agg (thC there tagged o md).toArray, .slice A l.length c, S nm] w fun e w' => e = .returned (.tuple #[.int .i64 (sinceE nm l there md).1, .bool (sinceE nm l there md).2]) ∧ Below w.heap.size w w' := by
  obtain ⟨o1, o2⟩ := o
  have hb0 : Below w.heap.size w (w.alloc (.cells (thC there tagged (o1, o2) md).toArray 39)) := (Below.refl _ _).alloc (Nat.le_refl _) _
  have bx := BoxAt.new w (thC there tagged (o1, o2) md) 39
  have hr0 := (hr.below hb0 (Nat.le_refl _)).more hb0.size
  have hP0 := hP.keep hb0
  have hM0 := hM.keep hb0
  have hg := w_GetS nm hnm l hj A c _ hr0
  have hjl := join_ok (nm := lowL nm) hj
  have hd := w_date (Lib.join (valsL (lowL nm) l) sepL) (by omega)
  unfold sinceE toldE
  generalize Lib.join (valsL (lowL nm) l) sepL = s at *
  generalize (valsL (lowL nm) l).isEmpty = b at *
  generalize dtE s = td at *
  obtain ⟨n, d⟩ := td
  simp only at hd
  unfold thC at *
  go_enter Tryz.func12, Tryz.ntmps12
  go_wp2_with fail
  refine hg.mono ?_
  rintro e w1 ⟨rfl, hb1⟩
  have bx1 := bx.keep hb1
  have hB1 := hb0.trans (hb1.mono hb0.size)
  have hd1 := hd w1 (hP0.keep hb1) (hM0.keep hb1)
  clear hg hd bx hr0 hr hP hM hP0 hM0 hb1 hb0
  go_wp2_with fail
  refine hd1.mono ?_
  rintro e w2 ⟨rfl, hb2⟩
  have bx2 := bx1.keep hb2
  have hB2 := hB1.trans (hb2.mono hB1.size)
  have p0 := bx2.cell (j := 0) rfl
  have p4 := bx2.cell (j := 4) rfl
  clear hd1 bx1 bx2 hB1 hb2
  cases b <;> cases d <;> cases there <;> cases hmd : decide (0 ≤ md)
  all_goals
    simp only [errI, Bool.not_true, Bool.not_false, if_true, Bool.false_eq_true, if_false]
    go_wp2_with fail
    go_region
    all_goals go_wp2
    all_goals go_ret2
    all_goals exact ⟨by first | (simp; done) | (simp; simp at hmd; omega), by first | exact hB2 | exact hB2.drew⟩
set_option maxHeartbeats 8000000 in
set_option maxRecDepth 100000 in
theorem w_Eval (m : List UInt8) (hm : m.length ≤ 140737488351232) (l : List Fld) (hj : (l.map (fun f => f.1.length + f.2.length + 3)).sum ≤ 1048576) (A : Option Addr) (c : Nat) (there : Bool) (tag : List UInt8) (htag : tag.length ≤ 140737488351232) (md : Int) (w : World) (hr : ReadL encF w w.heap.size A l) (hP : PW w) (hM : ML w) (tagged : Bool) (o : Tg) (ho : parseT tag = if tagged then some o else none) (ho2 : tagged = false → o = (false, [])) :
    Calls Tryz.prog 5 #[S m, .slice A l.length c, .bool there, S tag, .int .i64 md] w fun e w' => e = .returned (.int .i64 (evalI (rdsB m) (meetsE ifmN l there tagged (metStrong o)).1 (meetsE ifmN l there tagged (metStrong o)).2 (sinceE iusN l there md).2 (sinceE iusN l there md).1 (meetsE inmN l there tagged (metWeak o)).1 (meetsE inmN l there tagged (metWeak o)).2 (sinceE imsN l there md).2 (sinceE imsN l there md).1 md)) ∧ Below w.heap.size w w' := by
  have hpt := w_tparse tag htag w
  have ht1 := fun W hrW => w_tagsStrong ifmN (by decide) l hj A c W hrW there tagged o md
  have ht2 := fun W hrW => w_tagsWeak inmN (by decide) l hj A c W hrW there tagged o md
  have hs1 := fun W hrW hPW hMW => w_since iusN (by decide) l hj A c W hrW hPW hMW there tagged o md
  have hs2 := fun W hrW hPW hMW => w_since imsN (by decide) l hj A c W hrW hPW hMW there tagged o md
  have hpt2 : Calls Tryz.prog 9 #[S tag] w fun e w' => (∃ en : Int, e = .returned (.tuple #[.agg #[.bool o.1, S o.2], .int .i64 en]) ∧ (en == 0) = tagged) ∧ Below w.heap.size w w' := by
    refine hpt.mono ?_
    intro e w' hp
    unfold TPost at hp
    rw [ho] at hp
    cases tagged
    · rw [ho2 rfl]
      exact ⟨⟨3, hp.1, rfl⟩, hp.2⟩
    · exact ⟨⟨0, hp.1, rfl⟩, hp.2⟩
  clear hpt ho ho2
  generalize meetsE ifmN l there tagged (metStrong o) = q1 at *
  generalize meetsE inmN l there tagged (metWeak o) = q2 at *
  generalize sinceE iusN l there md = q3 at *
  generalize sinceE imsN l there md = q4 at *
  obtain ⟨i1, m1⟩ := q1
  obtain ⟨i2, m2⟩ := q2
  obtain ⟨n1, h1⟩ := q3
  obtain ⟨n2, h2⟩ := q4
  obtain ⟨o1, o2⟩ := o
  simp only at ht1 ht2 hs1 hs2 hpt2 ⊢
  obtain ⟨U, hU⟩ : ∃ U, evalI (rdsB m) i1 m1 h1 n1 i2 m2 h2 n2 md = U := ⟨_, rfl⟩
  rw [hU]
  have HU := Lib.hid hU
  clear hU hj
  unfold thC at *
  go_enter Tryz.func5, Tryz.ntmps5
  go_wp2_with fail
  refine hpt2.mono ?_
  rintro e w1 ⟨⟨en, rfl, hen⟩, hb1⟩
  have Hen := Lib.hid hen
  have hr1 := (hr.below hb1 (Nat.le_refl _)).more hb1.size
  have hP1 := hP.keep hb1
  have hM1 := hM.keep hb1
  clear hen hpt2 hr hP hM
  go_upto_region 3 with fail
  rw [Hen.out]
  clear Hen
  have hb2 : Below w.heap.size w ((w1.alloc (.cells #[.bool o1, S o2] 34)).alloc (.cells #[.bool there, .bool tagged, .bool o1, S o2, .int .i64 md] 39)) := (hb1.alloc hb1.size _).alloc (by have := hb1.size; simp; omega) _
  have hb12 : Below w1.heap.size w1 ((w1.alloc (.cells #[.bool o1, S o2] 34)).alloc (.cells #[.bool there, .bool tagged, .bool o1, S o2, .int .i64 md] 39)) := ((Below.refl _ _).alloc (Nat.le_refl _) _).alloc (by simp) _
  have bxw3 : BoxAt ((w1.alloc (.cells #[.bool o1, S o2] 34)).alloc (.cells #[.bool there, .bool tagged, .bool o1, S o2, .int .i64 md] 39)) (w1.heap.size + 1) 39 [.bool there, .bool tagged, .bool o1, S o2, .int .i64 md] := by
    have := BoxAt.new (w1.alloc (.cells #[.bool o1, S o2] 34)) [.bool there, .bool tagged, .bool o1, S o2, .int .i64 md] 39
    simpa using this
  have hBw3 := hb2
  have hrw3 := (hr1.below hb12 (Nat.le_refl _)).more hb12.size
  have hPw3 := hP1.keep hb12
  have hMw3 := hM1.keep hb12
  clear hb1 hb2 hb12 hr1 hP1 hM1
  change BoxAt ((w1.alloc (Obj.cells #[Value.bool o1, Value.string ⟨o2.toArray⟩] 34)).alloc _) _ _ _ at bxw3
  generalize hW3 : ((w1.alloc (Obj.cells #[Value.bool o1, Value.string ⟨o2.toArray⟩] 34)).alloc (Obj.cells #[Value.bool there, Value.bool tagged, Value.bool o1, Value.string ⟨o2.toArray⟩, Value.int IntKind.i64 md] 39)) = w3 at *
  clear hW3
  go_cut [14] (fun s' wx => s' = .bool (rdsB m) ∧ wx = w3)
  case first =>
    clear HU ht1 ht2 hs1 hs2 bxw3 hBw3 hrw3 hPw3 hMw3
    cases hg : (m == [71, 69, 84])
    · cases hh : (m == [72, 69, 65, 68])
      · go_wp2_with fail
        go_meet
        case rel => exact ⟨by simp [rdsB, hg, hh], rfl⟩
      · have hm2 : m = [72, 69, 65, 68] := by simpa using hh
        subst hm2
        go_wp2_with fail
        go_meet
        case rel => exact ⟨rfl, rfl⟩
    · have hm2 : m = [71, 69, 84] := by simpa using hg
      subst hm2
      go_wp2_with fail
      go_meet
      case rel => exact ⟨rfl, rfl⟩
  case rest =>
    obtain ⟨hs14, rfl⟩ := hcut
    generalize rdsB m = rd at *
    subst hs14
    have p0w3 := bxw3.cell (j := 0) rfl
    have p1w3 := bxw3.cell (j := 1) rfl
    have p2w3 := bxw3.cell (j := 2) rfl
    have p3w3 := bxw3.cell (j := 3) rfl
    have p4w3 := bxw3.cell (j := 4) rfl
    go_wp2_with fail
    refine (ht1 _ hrw3).mono ?_
    rintro e w4 ⟨rfl, hbw4⟩
    have bxw4 := bxw3.keep hbw4
    have hBw4 := hBw3.trans (hbw4.mono hBw3.size)
    have hrw4 := (hrw3.below hbw4 (Nat.le_refl _)).more hbw4.size
    have hPw4 := hPw3.keep hbw4
    have hMw4 := hMw3.keep hbw4
    have p0w4 := bxw4.cell (j := 0) rfl
    have p1w4 := bxw4.cell (j := 1) rfl
    have p2w4 := bxw4.cell (j := 2) rfl
    have p3w4 := bxw4.cell (j := 3) rfl
    have p4w4 := bxw4.cell (j := 4) rfl
    clear hbw4 bxw3 hBw3 hrw3 hPw3 hMw3
    cases i1
    · go_wp2_with fail
      refine (hs1 _ hrw4 hPw4 hMw4).mono ?_
      rintro e w5 ⟨rfl, hbw5⟩
      have bxw5 := bxw4.keep hbw5
      have hBw5 := hBw4.trans (hbw5.mono hBw4.size)
      have hrw5 := (hrw4.below hbw5 (Nat.le_refl _)).more hbw5.size
      have hPw5 := hPw4.keep hbw5
      have hMw5 := hMw4.keep hbw5
      have p0w5 := bxw5.cell (j := 0) rfl
      have p1w5 := bxw5.cell (j := 1) rfl
      have p2w5 := bxw5.cell (j := 2) rfl
      have p3w5 := bxw5.cell (j := 3) rfl
      have p4w5 := bxw5.cell (j := 4) rfl
      clear hbw5 bxw4 hBw4 hrw4 hPw4 hMw4
      cases h1
      · go_wp2_with fail
        refine (ht2 _ hrw5).mono ?_
        rintro e w6 ⟨rfl, hbw6⟩
        have bxw6 := bxw5.keep hbw6
        have hBw6 := hBw5.trans (hbw6.mono hBw5.size)
        have hrw6 := (hrw5.below hbw6 (Nat.le_refl _)).more hbw6.size
        have hPw6 := hPw5.keep hbw6
        have hMw6 := hMw5.keep hbw6
        have p0w6 := bxw6.cell (j := 0) rfl
        have p1w6 := bxw6.cell (j := 1) rfl
        have p2w6 := bxw6.cell (j := 2) rfl
        have p3w6 := bxw6.cell (j := 3) rfl
        have p4w6 := bxw6.cell (j := 4) rfl
        clear hbw6 bxw5 hBw5 hrw5 hPw5 hMw5
        cases i2
        · go_wp2_with fail
          refine (hs2 _ hrw6 hPw6 hMw6).mono ?_
          rintro e w7 ⟨rfl, hbw7⟩
          have bxw7 := bxw6.keep hbw7
          have hBw7 := hBw6.trans (hbw7.mono hBw6.size)
          have hrw7 := (hrw6.below hbw7 (Nat.le_refl _)).more hbw7.size
          have hPw7 := hPw6.keep hbw7
          have hMw7 := hMw6.keep hbw7
          have p0w7 := bxw7.cell (j := 0) rfl
          have p1w7 := bxw7.cell (j := 1) rfl
          have p2w7 := bxw7.cell (j := 2) rfl
          have p3w7 := bxw7.cell (j := 3) rfl
          have p4w7 := bxw7.cell (j := 4) rfl
          clear hbw7 bxw6 hBw6 hrw6 hPw6 hMw6
          cases h2
          · have HU2 := Lib.hid (show U = 0 from by rw [← HU.out]; simp [evalI, *])
            clear HU
            go_wp2_with fail
            go_ret
            rw [HU2.out]
            exact ⟨rfl, hBw7⟩
          · cases rd
            · have HU2 := Lib.hid (show U = 0 from by rw [← HU.out]; simp [evalI, *])
              clear HU
              go_wp2_with fail
              go_ret
              rw [HU2.out]
              exact ⟨rfl, hBw7⟩
            · cases hc2 : decide (md ≤ n2)
              · have HU2 := Lib.hid (show U = 0 from by rw [← HU.out]; simp [evalI, *])
                clear HU
                go_wp2_with fail
                go_ret
                rw [HU2.out]
                exact ⟨rfl, hBw7⟩
              · have HU2 := Lib.hid (show U = 304 from by rw [← HU.out]; simp [evalI, *])
                clear HU
                go_wp2_with fail
                go_ret
                rw [HU2.out]
                exact ⟨rfl, hBw7⟩
        · cases m2
          · have HU2 := Lib.hid (show U = 0 from by rw [← HU.out]; simp [evalI, *])
            clear HU
            go_wp2_with fail
            go_ret
            rw [HU2.out]
            exact ⟨rfl, hBw6⟩
          · cases rd
            · have HU2 := Lib.hid (show U = 412 from by rw [← HU.out]; simp [evalI, *])
              clear HU
              go_wp2_with fail
              go_ret
              rw [HU2.out]
              exact ⟨rfl, hBw6⟩
            · have HU2 := Lib.hid (show U = 304 from by rw [← HU.out]; simp [evalI, *])
              clear HU
              go_wp2_with fail
              go_ret
              rw [HU2.out]
              exact ⟨rfl, hBw6⟩
      · cases hc1 : decide (n1 < md)
        · go_wp2_with fail
          refine (ht2 _ hrw5).mono ?_
          rintro e w6 ⟨rfl, hbw6⟩
          have bxw6 := bxw5.keep hbw6
          have hBw6 := hBw5.trans (hbw6.mono hBw5.size)
          have hrw6 := (hrw5.below hbw6 (Nat.le_refl _)).more hbw6.size
          have hPw6 := hPw5.keep hbw6
          have hMw6 := hMw5.keep hbw6
          have p0w6 := bxw6.cell (j := 0) rfl
          have p1w6 := bxw6.cell (j := 1) rfl
          have p2w6 := bxw6.cell (j := 2) rfl
          have p3w6 := bxw6.cell (j := 3) rfl
          have p4w6 := bxw6.cell (j := 4) rfl
          clear hbw6 bxw5 hBw5 hrw5 hPw5 hMw5
          cases i2
          · go_wp2_with fail
            refine (hs2 _ hrw6 hPw6 hMw6).mono ?_
            rintro e w7 ⟨rfl, hbw7⟩
            have bxw7 := bxw6.keep hbw7
            have hBw7 := hBw6.trans (hbw7.mono hBw6.size)
            have hrw7 := (hrw6.below hbw7 (Nat.le_refl _)).more hbw7.size
            have hPw7 := hPw6.keep hbw7
            have hMw7 := hMw6.keep hbw7
            have p0w7 := bxw7.cell (j := 0) rfl
            have p1w7 := bxw7.cell (j := 1) rfl
            have p2w7 := bxw7.cell (j := 2) rfl
            have p3w7 := bxw7.cell (j := 3) rfl
            have p4w7 := bxw7.cell (j := 4) rfl
            clear hbw7 bxw6 hBw6 hrw6 hPw6 hMw6
            cases h2
            · have HU2 := Lib.hid (show U = 0 from by rw [← HU.out]; simp [evalI, *])
              clear HU
              go_wp2_with fail
              go_ret
              rw [HU2.out]
              exact ⟨rfl, hBw7⟩
            · cases rd
              · have HU2 := Lib.hid (show U = 0 from by rw [← HU.out]; simp [evalI, *])
                clear HU
                go_wp2_with fail
                go_ret
                rw [HU2.out]
                exact ⟨rfl, hBw7⟩
              · cases hc2 : decide (md ≤ n2)
                · have HU2 := Lib.hid (show U = 0 from by rw [← HU.out]; simp [evalI, *])
                  clear HU
                  go_wp2_with fail
                  go_ret
                  rw [HU2.out]
                  exact ⟨rfl, hBw7⟩
                · have HU2 := Lib.hid (show U = 304 from by rw [← HU.out]; simp [evalI, *])
                  clear HU
                  go_wp2_with fail
                  go_ret
                  rw [HU2.out]
                  exact ⟨rfl, hBw7⟩
          · cases m2
            · have HU2 := Lib.hid (show U = 0 from by rw [← HU.out]; simp [evalI, *])
              clear HU
              go_wp2_with fail
              go_ret
              rw [HU2.out]
              exact ⟨rfl, hBw6⟩
            · cases rd
              · have HU2 := Lib.hid (show U = 412 from by rw [← HU.out]; simp [evalI, *])
                clear HU
                go_wp2_with fail
                go_ret
                rw [HU2.out]
                exact ⟨rfl, hBw6⟩
              · have HU2 := Lib.hid (show U = 304 from by rw [← HU.out]; simp [evalI, *])
                clear HU
                go_wp2_with fail
                go_ret
                rw [HU2.out]
                exact ⟨rfl, hBw6⟩
        · have HU2 := Lib.hid (show U = 412 from by rw [← HU.out]; simp [evalI, *])
          clear HU
          go_wp2_with fail
          go_ret
          rw [HU2.out]
          exact ⟨rfl, hBw5⟩
    · cases m1
      · have HU2 := Lib.hid (show U = 412 from by rw [← HU.out]; simp [evalI, *])
        clear HU
        go_wp2_with fail
        go_ret
        rw [HU2.out]
        exact ⟨rfl, hBw4⟩
      · go_wp2_with fail
        refine (ht2 _ hrw4).mono ?_
        rintro e w6 ⟨rfl, hbw6⟩
        have bxw6 := bxw4.keep hbw6
        have hBw6 := hBw4.trans (hbw6.mono hBw4.size)
        have hrw6 := (hrw4.below hbw6 (Nat.le_refl _)).more hbw6.size
        have hPw6 := hPw4.keep hbw6
        have hMw6 := hMw4.keep hbw6
        have p0w6 := bxw6.cell (j := 0) rfl
        have p1w6 := bxw6.cell (j := 1) rfl
        have p2w6 := bxw6.cell (j := 2) rfl
        have p3w6 := bxw6.cell (j := 3) rfl
        have p4w6 := bxw6.cell (j := 4) rfl
        clear hbw6 bxw4 hBw4 hrw4 hPw4 hMw4
        cases i2
        · go_wp2_with fail
          refine (hs2 _ hrw6 hPw6 hMw6).mono ?_
          rintro e w7 ⟨rfl, hbw7⟩
          have bxw7 := bxw6.keep hbw7
          have hBw7 := hBw6.trans (hbw7.mono hBw6.size)
          have hrw7 := (hrw6.below hbw7 (Nat.le_refl _)).more hbw7.size
          have hPw7 := hPw6.keep hbw7
          have hMw7 := hMw6.keep hbw7
          have p0w7 := bxw7.cell (j := 0) rfl
          have p1w7 := bxw7.cell (j := 1) rfl
          have p2w7 := bxw7.cell (j := 2) rfl
          have p3w7 := bxw7.cell (j := 3) rfl
          have p4w7 := bxw7.cell (j := 4) rfl
          clear hbw7 bxw6 hBw6 hrw6 hPw6 hMw6
          cases h2
          · have HU2 := Lib.hid (show U = 0 from by rw [← HU.out]; simp [evalI, *])
            clear HU
            go_wp2_with fail
            go_ret
            rw [HU2.out]
            exact ⟨rfl, hBw7⟩
          · cases rd
            · have HU2 := Lib.hid (show U = 0 from by rw [← HU.out]; simp [evalI, *])
              clear HU
              go_wp2_with fail
              go_ret
              rw [HU2.out]
              exact ⟨rfl, hBw7⟩
            · cases hc2 : decide (md ≤ n2)
              · have HU2 := Lib.hid (show U = 0 from by rw [← HU.out]; simp [evalI, *])
                clear HU
                go_wp2_with fail
                go_ret
                rw [HU2.out]
                exact ⟨rfl, hBw7⟩
              · have HU2 := Lib.hid (show U = 304 from by rw [← HU.out]; simp [evalI, *])
                clear HU
                go_wp2_with fail
                go_ret
                rw [HU2.out]
                exact ⟨rfl, hBw7⟩
        · cases m2
          · have HU2 := Lib.hid (show U = 0 from by rw [← HU.out]; simp [evalI, *])
            clear HU
            go_wp2_with fail
            go_ret
            rw [HU2.out]
            exact ⟨rfl, hBw6⟩
          · cases rd
            · have HU2 := Lib.hid (show U = 412 from by rw [← HU.out]; simp [evalI, *])
              clear HU
              go_wp2_with fail
              go_ret
              rw [HU2.out]
              exact ⟨rfl, hBw6⟩
            · have HU2 := Lib.hid (show U = 304 from by rw [← HU.out]; simp [evalI, *])
              clear HU
              go_wp2_with fail
              go_ret
              rw [HU2.out]
              exact ⟨rfl, hBw6⟩
end Go.Proofs.YtcoghpokkhjhgaaGreatDoor
