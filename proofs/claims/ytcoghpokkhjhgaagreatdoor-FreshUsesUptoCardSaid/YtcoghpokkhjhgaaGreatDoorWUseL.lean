/- Walk: the law of FreshUses. -/
import Derived.Test.YtcoghpokkhjhgaaGreatDoorWUse
import Derived.Test.YtcoghpokkhjhgaaGreatDoorWUseR
import Derived.Deep.RegionWith
import Derived.Deep.RegionHeld3
namespace Go.Proofs.YtcoghpokkhjhgaaGreatDoor
open Go.RowKit Go.Larder
set_option linter.unusedVariables false
set_option linter.unusedSimpArgs false
set_option maxHeartbeats 4000000 in
set_option maxRecDepth 100000 in
theorem w_lawFreshUses (l1 : List Fld) (hj1 : (l1.map (fun f => f.1.length + f.2.length + 3)).sum ≤ 1048576) (A1 : Option Addr) (n1 : Nat) (c0 c1 c2 c3 : Value) (code : Int) (c5 : Value) (A : Option Addr) (l : List Fld) (c : Nat) (c7 : Value) (ak cm : Int) (c10 : Value) (hj : (l.map (fun f => f.1.length + f.2.length + 3)).sum ≤ 1048576) (nw : Int) (w : World) (hr1 : ReadL encF w w.heap.size A1 l1) (hr : ReadL encF w w.heap.size A l) (hP : PW w) (hM : ML w) :
    Calls Tryz.prog 4 #[.slice A1 l1.length n1, .agg (heldC c0 c1 c2 c3 (.int .i64 code) c5 A l.length c c7 ak cm c10).toArray, .int .i64 nw] w fun e w' => e = .returned (.bool true) ∧ Below w.heap.size w w' := by
  have hb0 : Below w.heap.size w (w.alloc (.cells (heldC c0 c1 c2 c3 (.int .i64 code) c5 A l.length c c7 ak cm c10).toArray 30)) := (Below.refl _ _).alloc (Nat.le_refl _) _
  have bx := BoxAt.new w (heldC c0 c1 c2 c3 (.int .i64 code) c5 A l.length c c7 ak cm c10) 30
  have hr0 := (hr.below hb0 (Nat.le_refl _)).more hb0.size
  have hr10 := (hr1.below hb0 (Nat.le_refl _)).more hb0.size
  have hP0 := hP.keep hb0
  have hM0 := hM.keep hb0
  have h1 := fun W hrW1 hrW hPW hMW => w_Use l1 hj1 A1 n1 l hj A c W hrW1 hrW hPW hMW c0 c1 c2 c3 code c5 c7 c10 ak cm nw
  have h2 := fun W hrW1 hrW hPW hMW => w_UseR l1 hj1 A1 n1 l hj A c W hrW1 hrW hPW hMW c0 c1 c2 c3 code c5 c7 c10 ak cm nw
  generalize useE l1 l code cm ak nw = E at *
  have hsz : w.heap.size < (w.alloc (.cells (heldC c0 c1 c2 c3 (.int .i64 code) c5 A l.length c c7 ak cm c10).toArray 30)).heap.size := by simp
  unfold heldC at *
  go_enter Tryz.func4, Tryz.ntmps4
  go_wp2_with fail
  generalize w.alloc (.cells #[c0, c1, c2, c3, .int .i64 code, c5, .slice A l.length c, c7, .int .i64 ak, .int .i64 cm, c10] 30) = W0 at *
  have p0 := bx.cell (j := 0) rfl; have p1 := bx.cell (j := 1) rfl; have p2 := bx.cell (j := 2) rfl; have p3 := bx.cell (j := 3) rfl; have p4 := bx.cell (j := 4) rfl; have p5 := bx.cell (j := 5) rfl; have p6 := bx.cell (j := 6) rfl; have p7 := bx.cell (j := 7) rfl; have p8 := bx.cell (j := 8) rfl; have p9 := bx.cell (j := 9) rfl; have p10 := bx.cell (j := 10) rfl
  have bxD : BoxAt W0.drew w.heap.size 30 _ := bx
  have hbD : Below w.heap.size w W0.drew := hb0.drew
  have hrD : ReadL encF W0.drew W0.drew.heap.size A l := hr0
  have hrD1 : ReadL encF W0.drew W0.drew.heap.size A1 l1 := hr10
  have hPD : PW W0.drew := hP0
  have hMD : ML W0.drew := hM0
  clear hr hr1 hP hM hr0 hr10 hP0 hM0 hb0 bx hj hj1
  go_region_held3 (fun w' => w'.cell? ⟨w.heap.size, 0, none⟩ = some (c0) ∧ w'.cell? ⟨w.heap.size, 1, none⟩ = some (c1) ∧ w'.cell? ⟨w.heap.size, 2, none⟩ = some (c2) ∧ w'.cell? ⟨w.heap.size, 3, none⟩ = some (c3) ∧ w'.cell? ⟨w.heap.size, 4, none⟩ = some (.int .i64 code) ∧ w'.cell? ⟨w.heap.size, 5, none⟩ = some (c5) ∧ w'.cell? ⟨w.heap.size, 6, none⟩ = some (.slice A l.length c) ∧ w'.cell? ⟨w.heap.size, 7, none⟩ = some (c7) ∧ w'.cell? ⟨w.heap.size, 8, none⟩ = some (.int .i64 ak) ∧ w'.cell? ⟨w.heap.size, 9, none⟩ = some (.int .i64 cm) ∧ w'.cell? ⟨w.heap.size, 10, none⟩ = some (c10)) ((first | exact ⟨p0, p1, p2, p3, p4, p5, p6, p7, p8, p9, p10⟩ | exact ⟨s0, s1, s2, s3, s4, s5, s6, s7, s8, s9, s10⟩ | exact ⟨z0, z1, z2, z3, z4, z5, z6, z7, z8, z9, z10⟩ | assumption)) (first
    | (go_at_call 7; (with_reducible refine Calls.mono (h1 W0.drew hrD1 hrD hPD hMD) ?_); rintro e w2 ⟨rfl, hb2⟩; have bx2 := bxD.keep hb2; have s0 := bx2.cell (j := 0) rfl; have s1 := bx2.cell (j := 1) rfl; have s2 := bx2.cell (j := 2) rfl; have s3 := bx2.cell (j := 3) rfl; have s4 := bx2.cell (j := 4) rfl; have s5 := bx2.cell (j := 5) rfl; have s6 := bx2.cell (j := 6) rfl; have s7 := bx2.cell (j := 7) rfl; have s8 := bx2.cell (j := 8) rfl; have s9 := bx2.cell (j := 9) rfl; have s10 := bx2.cell (j := 10) rfl)
    | (go_at_call 8; (with_reducible refine Calls.mono (h2 w2 ((hrD1.below hb2 (Nat.le_refl _)).more hb2.size) ((hrD.below hb2 (Nat.le_refl _)).more hb2.size) (hPD.keep hb2) (hMD.keep hb2)) ?_); rintro e w3 ⟨rfl, hb3⟩; have bx3 := bx2.keep hb3; have z0 := bx3.cell (j := 0) rfl; have z1 := bx3.cell (j := 1) rfl; have z2 := bx3.cell (j := 2) rfl; have z3 := bx3.cell (j := 3) rfl; have z4 := bx3.cell (j := 4) rfl; have z5 := bx3.cell (j := 5) rfl; have z6 := bx3.cell (j := 6) rfl; have z7 := bx3.cell (j := 7) rfl; have z8 := bx3.cell (j := 8) rfl; have z9 := bx3.cell (j := 9) rfl; have z10 := bx3.cell (j := 10) rfl))
  all_goals
    go_wp2_with fail
    go_ret
    have hbw2 := hbD.trans (hb2.mono hbD.size)
    exact ⟨by first | rfl | (simp; done), hbw2.trans (hb3.mono hbw2.size)⟩
end Go.Proofs.YtcoghpokkhjhgaaGreatDoor
