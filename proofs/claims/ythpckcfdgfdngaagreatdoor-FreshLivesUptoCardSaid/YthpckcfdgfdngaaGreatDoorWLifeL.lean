/- Walk: the law of FreshLives. -/
import Derived.Test.YthpckcfdgfdngaaGreatDoorWLife
import Derived.Test.YthpckcfdgfdngaaGreatDoorWLifeR
import Derived.Deep.RegionWith
namespace Go.Proofs.YthpckcfdgfdngaaGreatDoor
open Go.RowKit Go.Larder
set_option linter.unusedVariables false
set_option linter.unusedSimpArgs false
set_option maxHeartbeats 2000000 in
set_option maxRecDepth 100000 in
theorem w_lawFreshLives (c0 c1 c2 c3 : Value) (code : Int) (c5 : Value) (A : Option Addr) (l : List Fld) (c : Nat) (c7 : Value) (ak cm : Int) (c10 : Value) (hj : (l.map (fun f => f.1.length + f.2.length + 3)).sum ≤ 1048576) (w : World) (hr : ReadL encF w w.heap.size A l) (hP : PW w) (hM : ML w) :
    Calls Tryz.prog 4 #[.agg (heldC c0 c1 c2 c3 (.int .i64 code) c5 A l.length c c7 ak cm c10).toArray] w fun e w' => e = .returned (.bool true) ∧ Below w.heap.size w w' := by
  have hb0 : Below w.heap.size w (w.alloc (.cells (heldC c0 c1 c2 c3 (.int .i64 code) c5 A l.length c c7 ak cm c10).toArray 30)) := (Below.refl _ _).alloc (Nat.le_refl _) _
  have bx := BoxAt.new w (heldC c0 c1 c2 c3 (.int .i64 code) c5 A l.length c c7 ak cm c10) 30
  have hr0 := (hr.alloc (Nat.le_refl _) (.cells (heldC c0 c1 c2 c3 (.int .i64 code) c5 A l.length c c7 ak cm c10).toArray 30)).more (B' := (w.alloc (.cells (heldC c0 c1 c2 c3 (.int .i64 code) c5 A l.length c c7 ak cm c10).toArray 30)).heap.size) (by simp)
  have hP0 := hP.keep hb0
  have hM0 := hM.keep hb0
  have h1 := fun W hrW hPW hMW => w_Life l hj A c W hrW hPW hMW c0 c1 c2 c3 code c5 c7 c10 ak cm
  have h2 := fun W hrW hMW => w_LifeR l hj A c W hrW hMW c0 c1 c2 c3 code c5 c7 c10 ak cm
  generalize lifeE l code cm = E at *
  have hsz : w.heap.size < (w.alloc (.cells (heldC c0 c1 c2 c3 (.int .i64 code) c5 A l.length c c7 ak cm c10).toArray 30)).heap.size := by simp
  unfold heldC at *
  go_enter Tryz.func4, Tryz.ntmps4
  go_wp2_with fail
  generalize w.alloc (.cells #[c0, c1, c2, c3, .int .i64 code, c5, .slice A l.length c, c7, .int .i64 ak, .int .i64 cm, c10] 30) = W0 at *
  have p0 := bx.cell (j := 0) rfl; have p1 := bx.cell (j := 1) rfl; have p2 := bx.cell (j := 2) rfl; have p3 := bx.cell (j := 3) rfl; have p4 := bx.cell (j := 4) rfl; have p5 := bx.cell (j := 5) rfl; have p6 := bx.cell (j := 6) rfl; have p7 := bx.cell (j := 7) rfl; have p8 := bx.cell (j := 8) rfl; have p9 := bx.cell (j := 9) rfl; have p10 := bx.cell (j := 10) rfl
  have bxD : BoxAt W0.drew w.heap.size 30 _ := bx
  have hbD : Below w.heap.size w W0.drew := hb0.drew
  have hrD : ReadL encF W0.drew W0.drew.heap.size A l := hr0
  have hPD : PW W0.drew := hP0
  have hMD : ML W0.drew := hM0
  clear hr hP hM hr0 hP0 hM0 hb0 bx hj
  go_region_with (first
    | (go_at_call 8; refine Calls.mono (h1 W0.drew hrD hPD hMD) ?_; rintro e w2 ⟨rfl, hb2⟩; have bx2 := bxD.keep hb2; have s0 := bx2.cell (j := 0) rfl; have s1 := bx2.cell (j := 1) rfl; have s2 := bx2.cell (j := 2) rfl; have s3 := bx2.cell (j := 3) rfl; have s4 := bx2.cell (j := 4) rfl; have s5 := bx2.cell (j := 5) rfl; have s6 := bx2.cell (j := 6) rfl; have s7 := bx2.cell (j := 7) rfl; have s8 := bx2.cell (j := 8) rfl; have s9 := bx2.cell (j := 9) rfl; have s10 := bx2.cell (j := 10) rfl)
    | (go_at_call 9; refine Calls.mono (h2 w2 ((hrD.below hb2 (Nat.le_refl _)).more hb2.size) (hMD.keep hb2)) ?_; rintro e w3 ⟨rfl, hb3⟩))
  all_goals
    go_wp2_with fail
    go_ret
    have hbw2 := hbD.trans (hb2.mono hbD.size)
    exact ⟨by first | rfl | (simp; done), hbw2.trans (hb3.mono hbw2.size)⟩
end Go.Proofs.YthpckcfdgfdngaaGreatDoor
