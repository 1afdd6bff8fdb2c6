/- Walks: fresh.Age and the reference's. -/
import Derived.Test.YtcoghpokkhjhgaaGreatDoorWDtE
import Derived.Test.YtcoghpokkhjhgaaGreatDoorWCtl
import Derived.Test.YtcoghpokkhjhgaaGreatDoorBoxAt
import Derived.Deep.RegionWith
import Derived.Deep.QuietTactic
import Derived.BigQuiet
namespace Go.Larder
open Go.RowKit
set_option linter.unusedVariables false
def dateN : List UInt8 := [68, 97, 116, 101]
def ageN : List UInt8 := [65, 103, 101]
def clampT (n : Int) : Int := min (max n 0) 253402300799
theorem clampT_bd (n : Int) : 0 ≤ clampT n ∧ clampT n ≤ 253402300799 := by unfold clampT; omega
/-- when a response was made -/
noncomputable def datedE (l : List Fld) (came : Int) : Int := if (toldE dateN l).2 then (toldE dateN l).1 else clampT came
theorem datedE_bd (l : List Fld) (came : Int) : 0 ≤ datedE l came ∧ datedE l came ≤ 253402300799 := by
  unfold datedE
  have := toldE_bd dateN l
  have := clampT_bd came
  split <;> omega
def ageI (ak cm nw dt sn : Int) : Int := min (max (max (max (cm - dt) 0) (sn + max (cm - ak) 0) + max (nw - cm) 0) 0) 2147483648
theorem secGo_bd : ∀ (l : List UInt8) (n : Int), 0 ≤ n → n ≤ 2147483648 → (l.all (inTab tensTab) = true) → 0 ≤ secGo n l ∧ secGo n l ≤ 2147483648
  | [], n, h0, h1, _ => ⟨h0, h1⟩
  | c :: l, n, h0, h1, h => by
    rw [List.all_cons, Bool.and_eq_true] at h
    have hc : 48 ≤ c.toNat ∧ c.toNat ≤ 57 := by have := h.1; rw [tens_eq] at this; exact of_decide_eq_true this
    exact secGo_bd l _ (by omega) (by omega) h.2
theorem secs_bd (l : List UInt8) : 0 ≤ secs l ∧ secs l ≤ 2147483648 := by
  unfold secs
  split
  · next h => exact secGo_bd l 0 (by decide) (by decide) h
  · exact ⟨by decide, by decide⟩
noncomputable def ageE (l : List Fld) (asked came now : Int) : Int := ageI (clampT asked) (clampT came) (clampT now) (datedE l came) (secs (Lib.join (valsL (lowL ageN) l) sepL))
/-- The cells of a held response. -/
def heldC (c0 c1 c2 c3 c4 c5 : Value) (A : Option Addr) (n c : Nat) (c7 : Value) (asked came : Int) (c10 : Value) : List Value := [c0, c1, c2, c3, c4, c5, .slice A n c, c7, .int .i64 asked, .int .i64 came, c10]
end Go.Larder
namespace Go.Proofs.YtcoghpokkhjhgaaGreatDoor
open Go.RowKit Go.Larder
set_option linter.unusedVariables false
set_option linter.unusedSimpArgs false
theorem w_isTime (n : Int) (w : World) : Calls Tryz.prog 44 #[.int .i64 n] w fun e w' => e = .returned (.int .i64 (clampT n)) ∧ w = w' := by
  go_enter Tryz.func44, Tryz.ntmps44
  go_wp2_with fail
  go_ret
  exact ⟨rfl, rfl⟩
theorem w_within (n : Int) (w : World) : Calls Tryz.prog 41 #[.int .i64 n] w fun e w' => e = .returned (.int .i64 (min (max n 0) 2147483648)) ∧ w = w' := by
  go_enter Tryz.func41, Tryz.ntmps41
  go_wp2_with fail
  go_ret
  exact ⟨rfl, rfl⟩
theorem w_spanR (n m : Int) (w : World) : Calls Tryz.prog 48 #[.int .i64 n, .int .i64 m] w fun e w' => e = .returned (.int .i64 (max 0 (min n m))) ∧ w = w' := by
  go_enter Tryz.func48, Tryz.ntmps48
  go_wp2_with fail
  go_ret
  exact ⟨rfl, rfl⟩
theorem w_spanT (n : Int) (w : World) : Calls Tryz.prog 48 #[.int .i64 n, .int .i64 253402300799] w fun e w' => e = .returned (.int .i64 (clampT n)) ∧ w = w' := by
  have h := w_spanR n 253402300799 w
  rw [show max 0 (min n 253402300799) = clampT n from by unfold clampT; omega] at h
  exact h
theorem w_dated (l : List Fld) (hj : (l.map (fun f => f.1.length + f.2.length + 3)).sum ≤ 1048576) (A : Option Addr) (c : Nat) (w : World) (hr : ReadL encF w w.heap.size A l) (hP : PW w) (hM : ML w) (c0 c1 c2 c3 c4 c5 c7 c10 : Value) (ak cm : Int) :
    Calls Tryz.prog 42 #[.agg (heldC c0 c1 c2 c3 c4 c5 A l.length c c7 ak cm c10).toArray] w fun e w' => e = .returned (.int .i64 (datedE l cm)) ∧ Below w.heap.size w w' := by
  have ht := w_told dateN (by decide) l hj A c (w.alloc (.cells (heldC c0 c1 c2 c3 c4 c5 A l.length c c7 ak cm c10).toArray 30)) ((hr.alloc (Nat.le_refl _) _).more (by simp)) (hP.keep ((Below.refl _ _).alloc (Nat.le_refl _) _)) (hM.alloc _)
  have hb0 : Below w.heap.size w (w.alloc (.cells (heldC c0 c1 c2 c3 c4 c5 A l.length c c7 ak cm c10).toArray 30)) := (Below.refl _ _).alloc (Nat.le_refl _) _
  have bx := BoxAt.new w (heldC c0 c1 c2 c3 c4 c5 A l.length c c7 ak cm c10) 30
  have hct := w_isTime cm
  unfold datedE
  generalize toldE dateN l = td at *
  obtain ⟨n, b⟩ := td
  simp only at ht ⊢
  unfold heldC at *
  go_enter Tryz.func42, Tryz.ntmps42
  go_wp2_with fail
  refine ht.mono ?_
  rintro e w1 ⟨rfl, hb1⟩
  have hbw := hb0.trans (hb1.mono hb0.size)
  have bx1 := bx.keep hb1
  have p9 := bx1.cell (j := 9) rfl
  clear ht bx bx1
  cases b
  · go_wp2_with (go_at_call 44; refine (hct _).mono ?_; rintro e w' ⟨rfl, rfl⟩)
    go_ret
    exact ⟨rfl, hbw⟩
  · go_wp2_with fail
    go_ret
    exact ⟨rfl, hbw⟩
theorem w_madeR (l : List Fld) (hj : (l.map (fun f => f.1.length + f.2.length + 3)).sum ≤ 1048576) (A : Option Addr) (c : Nat) (w : World) (hr : ReadL encF w w.heap.size A l) (hM : ML w) (c0 c1 c2 c3 c4 c5 c7 c10 : Value) (ak cm : Int) :
    Calls Tryz.prog 49 #[.agg (heldC c0 c1 c2 c3 c4 c5 A l.length c c7 ak cm c10).toArray] w fun e w' => e = .returned (.int .i64 (datedE l cm)) ∧ Below w.heap.size w w' := by
  have ht := w_dateOfR dateN (by decide) l hj A c (w.alloc (.cells (heldC c0 c1 c2 c3 c4 c5 A l.length c c7 ak cm c10).toArray 30)) ((hr.alloc (Nat.le_refl _) _).more (by simp)) (hM.alloc _)
  have hb0 : Below w.heap.size w (w.alloc (.cells (heldC c0 c1 c2 c3 c4 c5 A l.length c c7 ak cm c10).toArray 30)) := (Below.refl _ _).alloc (Nat.le_refl _) _
  have bx := BoxAt.new w (heldC c0 c1 c2 c3 c4 c5 A l.length c c7 ak cm c10) 30
  have hct := w_spanT cm
  unfold datedE
  generalize toldE dateN l = td at *
  obtain ⟨n, b⟩ := td
  simp only at ht ⊢
  unfold heldC at *
  go_enter Tryz.func49, Tryz.ntmps49
  go_wp2_with fail
  refine ht.mono ?_
  rintro e w1 ⟨rfl, hb1⟩
  have hbw := hb0.trans (hb1.mono hb0.size)
  have bx1 := bx.keep hb1
  have p9 := bx1.cell (j := 9) rfl
  clear ht bx bx1
  cases b
  · go_wp2_with (go_at_call 48; refine (hct _).mono ?_; rintro e w' ⟨rfl, rfl⟩)
    go_ret
    exact ⟨rfl, hbw⟩
  · go_wp2_with fail
    go_ret
    exact ⟨rfl, hbw⟩
set_option maxHeartbeats 2000000 in
set_option maxRecDepth 100000 in
theorem w_Age (l : List Fld) (hj : (l.map (fun f => f.1.length + f.2.length + 3)).sum ≤ 1048576) (A : Option Addr) (c : Nat) (w : World) (hr : ReadL encF w w.heap.size A l) (hP : PW w) (hM : ML w) (c0 c1 c2 c3 c4 c5 c7 c10 : Value) (ak cm nw : Int) :
    Calls Tryz.prog 18 #[.agg (heldC c0 c1 c2 c3 c4 c5 A l.length c c7 ak cm c10).toArray, .int .i64 nw] w fun e w' => e = .returned (.int .i64 (ageE l ak cm nw)) ∧ Below w.heap.size w w' := by
  have hb0 : Below w.heap.size w (w.alloc (.cells (heldC c0 c1 c2 c3 c4 c5 A l.length c c7 ak cm c10).toArray 30)) := (Below.refl _ _).alloc (Nat.le_refl _) _
  have bx := BoxAt.new w (heldC c0 c1 c2 c3 c4 c5 A l.length c c7 ak cm c10) 30
  have hr0 := (hr.alloc (Nat.le_refl _) (.cells (heldC c0 c1 c2 c3 c4 c5 A l.length c c7 ak cm c10).toArray 30)).more (B' := (w.alloc (.cells (heldC c0 c1 c2 c3 c4 c5 A l.length c c7 ak cm c10).toArray 30)).heap.size) (by simp)
  have hP0 := hP.keep hb0
  have hM0 := hM.keep hb0
  have hg := fun W hrW => w_GetS ageN (by decide) l hj A c W hrW
  have hdt := fun W hrW hPW hMW => w_dated l hj A c W hrW hPW hMW c0 c1 c2 c3 c4 c5 c7 c10 ak cm
  unfold ageE
  have hdb := datedE_bd l cm
  have hsl := join_ok (nm := lowL ageN) hj
  have hsb := secs_bd (Lib.join (valsL (lowL ageN) l) sepL)
  generalize Lib.join (valsL (lowL ageN) l) sepL = s at *
  generalize (valsL (lowL ageN) l).isEmpty = emp at *
  generalize datedE l cm = dt at *
  unfold heldC at *
  go_enter Tryz.func18, Tryz.ntmps18
  go_wp2_with fail
  have p8 := bx.cell (j := 8) rfl
  have p9 := bx.cell (j := 9) rfl
  have p6 := bx.cell (j := 6) rfl
  have hsz : w.heap.size < (w.alloc (.cells #[c0, c1, c2, c3, c4, c5, .slice A l.length c, c7, .int .i64 ak, .int .i64 cm, c10] 30)).heap.size := by simp
  generalize w.alloc (.cells #[c0, c1, c2, c3, c4, c5, .slice A l.length c, c7, .int .i64 ak, .int .i64 cm, c10] 30) = W0 at *
  go_quiet ((go_at_call 44; exact Calls.quiet_of_same ((w_isTime _ _).mono fun _ _ ⟨he, hw⟩ => ⟨he, hw.symm⟩)))
  have q6 : (W0.drewN nq).cell? ⟨w.heap.size, 6, none⟩ = _ := p6
  have hbq : Below w.heap.size w (W0.drewN nq) := ⟨hb0.os, hb0.tape, hb0.output, hb0.size, hb0.block⟩
  have hrq : ReadL encF (W0.drewN nq) (W0.drewN nq).heap.size A l := hr0
  have bxq : BoxAt (W0.drewN nq) w.heap.size 30 [c0, c1, c2, c3, c4, c5, .slice A l.length c, c7, .int .i64 ak, .int .i64 cm, c10] := bx
  have hPq : PW (W0.drewN nq) := hP0
  have hMq : ML (W0.drewN nq) := hM0
  have hszq : w.heap.size < (W0.drewN nq).heap.size := hsz
  clear p6 p8 p9 hb0 hr0 bx hP0 hM0 hsz
  generalize W0.drewN nq = W1 at *
  have hka := clampT_bd ak
  have hkc := clampT_bd cm
  have hkn := clampT_bd nw
  obtain ⟨a, ha⟩ : ∃ a, clampT ak = a := ⟨_, rfl⟩
  obtain ⟨b, hb⟩ : ∃ b, clampT cm = b := ⟨_, rfl⟩
  obtain ⟨d, hd⟩ : ∃ d, clampT nw = d := ⟨_, rfl⟩
  rw [ha] at hka ⊢
  rw [hb] at hkc ⊢
  rw [hd] at hkn ⊢
  have Hn := Lib.hid (And.intro ha (And.intro hb hd))
  clear ha hb hd
  go_wp2_with fail
  refine (hg _ hrq).mono ?_
  rintro e w2 ⟨rfl, hb2⟩
  have hbw2 := hbq.trans (hb2.mono hbq.size)
  have hbx2 := bxq.keep hb2
  have hP2 := hPq.keep hb2
  have hM2 := hMq.keep hb2
  have hr2 := (hrq.below hb2 (Nat.le_refl _)).more hb2.size
  have hsd : ([([97, 103, 101], true, s)] : List Dir) = [([97, 103, 101], true, s)] := rfl
  have hrd : ReadL encD (w2.alloc (.cells #[S [97, 103, 101], .bool true, S s] 55)) (w2.heap.size + 1) (some ⟨w2.heap.size, 0, none⟩) [([97, 103, 101], true, s)] := ReadL.lit (E := encD) w2 #[S [97, 103, 101], .bool true, S s] _ [([97, 103, 101], true, s)] rfl
  have hfd : findD [97, 103, 101] [([97, 103, 101], true, s)] = (([97, 103, 101], true, s), true) := by simp [findD]
  have hsec := w_Seconds' [97, 103, 101] [([97, 103, 101], true, s)] (by simp) (by intro x hx; rw [List.mem_singleton] at hx; subst hx; show s.length ≤ _; omega) (some ⟨w2.heap.size, 0, none⟩) 1 _ (hrd.more (B' := (w2.alloc (.cells #[S [97, 103, 101], .bool true, S s] 55)).heap.size) (by simp)) _ _ _ _ hfd
  clear hg hb2 bxq hPq hMq hrq hrd hfd hsd
  go_wp2_with fail
  refine hsec.mono ?_
  rintro e w3 ⟨rfl, hb3⟩
  have hbA : Below w2.heap.size w2 (w2.alloc (.cells #[S [97, 103, 101], .bool true, S s] 55)) := (Below.refl _ _).alloc (Nat.le_refl _) _
  have hb23 := hbA.trans (hb3.mono (by simp))
  have hbw3 := hbw2.trans (hb23.mono hbw2.size)
  have hbx3 := hbx2.keep hb23
  have hP3 := hP2.keep hb23
  have hM3 := hM2.keep hb23
  have hr3 := (hr2.below hb23 (Nat.le_refl _)).more hb23.size
  have q0 := hbx3.cell (j := 0) rfl
  have q1 := hbx3.cell (j := 1) rfl
  have q2 := hbx3.cell (j := 2) rfl
  have q3 := hbx3.cell (j := 3) rfl
  have q4 := hbx3.cell (j := 4) rfl
  have q5 := hbx3.cell (j := 5) rfl
  have q6 := hbx3.cell (j := 6) rfl
  have q7 := hbx3.cell (j := 7) rfl
  have q8 := hbx3.cell (j := 8) rfl
  have q9 := hbx3.cell (j := 9) rfl
  have q10 := hbx3.cell (j := 10) rfl
  obtain ⟨sn, hsn⟩ : ∃ sn, secs s = sn := ⟨_, rfl⟩
  rw [hsn] at hsb ⊢
  have Hsn := Lib.hid hsn
  have v1 : IntKind.i64.wrap (b - dt) = b - dt := IntWalk.i64_in _ ⟨by omega, by omega⟩
  have v2 : IntKind.i64.wrap (b - a) = b - a := IntWalk.i64_in _ ⟨by omega, by omega⟩
  have v3 : IntKind.i64.wrap (d - b) = d - b := IntWalk.i64_in _ ⟨by omega, by omega⟩
  have v4 : IntKind.i64.wrap (sn + max (b - a) 0) = sn + max (b - a) 0 := IntWalk.i64_in _ ⟨by omega, by omega⟩
  have HB := Lib.hid (And.intro hka (And.intro hkc (And.intro hkn (And.intro hsb hdb))))
  clear hsec hbA hb3 hb23 hbx2 hP2 hM2 hr2 hsn hka hkc hkn hsb hdb
  go_wp2_with fail
  refine (hdt _ hr3 hP3 hM3).mono ?_
  rintro e w4 ⟨rfl, hb4⟩
  have hbw4 := hbw3.trans (hb4.mono hbw3.size)
  go_wp2_with (go_at_call 41; refine (w_within _ _).mono ?_; rintro e w' ⟨rfl, rfl⟩)
  go_ret
  refine ⟨?_, hbw4⟩
  clear v1 v2 v3 v4
  obtain ⟨hka, hkc, hkn, hsb, hdb⟩ := HB.out
  rw [Hsn.out, Hn.out.1, Hn.out.2.1, Hn.out.2.2]
  refine ret_int ?_
  unfold ageI
  have e : wrap64 (max (b - dt) (max 0 (sn + max (b - a) 0)) + max (d - b) 0) = max (b - dt) (max 0 (sn + max (b - a) 0)) + max (d - b) 0 := IntWalk.wrap64_in _ ⟨by omega, by omega⟩
  show min (max (wrap64 (max (b - dt) (max 0 (sn + max (b - a) 0)) + max (d - b) 0)) 0) 2147483648 = _
  rw [e]
  omega
set_option maxHeartbeats 2000000 in
set_option maxRecDepth 100000 in
theorem w_AgeR (l : List Fld) (hj : (l.map (fun f => f.1.length + f.2.length + 3)).sum ≤ 1048576) (A : Option Addr) (c : Nat) (w : World) (hr : ReadL encF w w.heap.size A l) (hM : ML w) (c0 c1 c2 c3 c4 c5 c7 c10 : Value) (ak cm nw : Int) :
    Calls Tryz.prog 24 #[.agg (heldC c0 c1 c2 c3 c4 c5 A l.length c c7 ak cm c10).toArray, .int .i64 nw] w fun e w' => e = .returned (.int .i64 (ageE l ak cm nw)) ∧ Below w.heap.size w w' := by
  have hb0 : Below w.heap.size w (w.alloc (.cells (heldC c0 c1 c2 c3 c4 c5 A l.length c c7 ak cm c10).toArray 30)) := (Below.refl _ _).alloc (Nat.le_refl _) _
  have bx := BoxAt.new w (heldC c0 c1 c2 c3 c4 c5 A l.length c c7 ak cm c10) 30
  have hr0 := (hr.alloc (Nat.le_refl _) (.cells (heldC c0 c1 c2 c3 c4 c5 A l.length c c7 ak cm c10).toArray 30)).more (B' := (w.alloc (.cells (heldC c0 c1 c2 c3 c4 c5 A l.length c c7 ak cm c10).toArray 30)).heap.size) (by simp)
  have hM0 := hM.keep hb0
  have hg := fun W hrW => w_GetRS ageN (by decide) l hj A c W hrW
  have hdt := fun W hrW hMW => w_madeR l hj A c W hrW hMW c0 c1 c2 c3 c4 c5 c7 c10 ak cm
  unfold ageE
  have hdb := datedE_bd l cm
  have hsl := join_ok (nm := lowL ageN) hj
  have hsb := secs_bd (Lib.join (valsL (lowL ageN) l) sepL)
  generalize Lib.join (valsL (lowL ageN) l) sepL = s at *
  generalize (valsL (lowL ageN) l).isEmpty = emp at *
  generalize datedE l cm = dt at *
  unfold heldC at *
  go_enter Tryz.func24, Tryz.ntmps24
  go_wp2_with fail
  have p8 := bx.cell (j := 8) rfl
  have p9 := bx.cell (j := 9) rfl
  have p6 := bx.cell (j := 6) rfl
  have hsz : w.heap.size < (w.alloc (.cells #[c0, c1, c2, c3, c4, c5, .slice A l.length c, c7, .int .i64 ak, .int .i64 cm, c10] 30)).heap.size := by simp
  generalize w.alloc (.cells #[c0, c1, c2, c3, c4, c5, .slice A l.length c, c7, .int .i64 ak, .int .i64 cm, c10] 30) = W0 at *
  go_quiet ((go_at_call 48; exact Calls.quiet_of_same ((w_spanT _ _).mono fun _ _ ⟨he, hw⟩ => ⟨he, hw.symm⟩)))
  have q6 : (W0.drewN nq).cell? ⟨w.heap.size, 6, none⟩ = _ := p6
  have hbq : Below w.heap.size w (W0.drewN nq) := ⟨hb0.os, hb0.tape, hb0.output, hb0.size, hb0.block⟩
  have hrq : ReadL encF (W0.drewN nq) (W0.drewN nq).heap.size A l := hr0
  have bxq : BoxAt (W0.drewN nq) w.heap.size 30 [c0, c1, c2, c3, c4, c5, .slice A l.length c, c7, .int .i64 ak, .int .i64 cm, c10] := bx
  have hMq : ML (W0.drewN nq) := hM0
  have hszq : w.heap.size < (W0.drewN nq).heap.size := hsz
  clear p6 p8 p9 hb0 hr0 bx hM0 hsz
  generalize W0.drewN nq = W1 at *
  have hka := clampT_bd ak
  have hkc := clampT_bd cm
  have hkn := clampT_bd nw
  obtain ⟨a, ha⟩ : ∃ a, clampT ak = a := ⟨_, rfl⟩
  obtain ⟨b, hb⟩ : ∃ b, clampT cm = b := ⟨_, rfl⟩
  obtain ⟨d, hd⟩ : ∃ d, clampT nw = d := ⟨_, rfl⟩
  rw [ha] at hka ⊢
  rw [hb] at hkc ⊢
  rw [hd] at hkn ⊢
  have Hn := Lib.hid (And.intro ha (And.intro hb hd))
  clear ha hb hd
  go_wp2_with fail
  refine (hg _ hrq).mono ?_
  rintro e w2 ⟨rfl, hb2⟩
  have hbw2 := hbq.trans (hb2.mono hbq.size)
  have hbx2 := bxq.keep hb2
  have hM2 := hMq.keep hb2
  have hr2 := (hrq.below hb2 (Nat.le_refl _)).more hb2.size
  have hsr := w_secondsR s (by omega)
  clear hg hb2 bxq hMq hrq
  have q0 := hbx2.cell (j := 0) rfl
  have q1 := hbx2.cell (j := 1) rfl
  have q2 := hbx2.cell (j := 2) rfl
  have q3 := hbx2.cell (j := 3) rfl
  have q4 := hbx2.cell (j := 4) rfl
  have q5 := hbx2.cell (j := 5) rfl
  have q6 := hbx2.cell (j := 6) rfl
  have q7 := hbx2.cell (j := 7) rfl
  have q8 := hbx2.cell (j := 8) rfl
  have q9 := hbx2.cell (j := 9) rfl
  have q10 := hbx2.cell (j := 10) rfl
  obtain ⟨sn, hsn⟩ : ∃ sn, secs s = sn := ⟨_, rfl⟩
  have hsr2 : ∀ W, Calls Tryz.prog 27 #[S s] W fun e w' => e = .returned (.int .i64 sn) ∧ W = w' := fun W => by rw [← hsn]; exact hsr W
  rw [hsn] at hsb
  clear hsr
  have Hsn := Lib.hid hsn
  have v1 : IntKind.i64.wrap (b - dt) = b - dt := IntWalk.i64_in _ ⟨by omega, by omega⟩
  have v2 : IntKind.i64.wrap (b - a) = b - a := IntWalk.i64_in _ ⟨by omega, by omega⟩
  have v3 : IntKind.i64.wrap (d - b) = d - b := IntWalk.i64_in _ ⟨by omega, by omega⟩
  have v4 : IntKind.i64.wrap (sn + max 0 (b - a)) = sn + max 0 (b - a) := IntWalk.i64_in _ ⟨by omega, by omega⟩
  have HB := Lib.hid (And.intro hka (And.intro hkc (And.intro hkn (And.intro hsb hdb))))
  clear hbx2 hsn hka hkc hkn hsb hdb
  go_wp2_with fail
  refine (hdt _ hr2 hM2).mono ?_
  rintro e w4 ⟨rfl, hb4⟩
  have hbw4 := hbw2.trans (hb4.mono hbw2.size)
  go_wp2_with (first
    | (go_at_call 27; refine (hsr2 _).mono ?_; rintro e w' ⟨rfl, rfl⟩)
    | (go_at_call 48; refine (w_spanR _ _ _).mono ?_; rintro e w' ⟨rfl, rfl⟩))
  go_ret
  refine ⟨?_, hbw4⟩
  clear v1 v2 v3 v4
  obtain ⟨hka, hkc, hkn, hsb, hdb⟩ := HB.out
  rw [Hsn.out, Hn.out.1, Hn.out.2.1, Hn.out.2.2]
  refine ret_int ?_
  unfold ageI
  have e : wrap64 (max (b - dt) (max (sn + max 0 (b - a)) 0) + max 0 (d - b)) = max (b - dt) (max (sn + max 0 (b - a)) 0) + max 0 (d - b) := IntWalk.wrap64_in _ ⟨by omega, by omega⟩
  show max 0 (min (wrap64 (max (b - dt) (max (sn + max 0 (b - a)) 0) + max 0 (d - b))) 2147483648) = _
  rw [e]
  omega
end Go.Proofs.YtcoghpokkhjhgaaGreatDoor
