/- Walk: larderref.MsgResponse. -/
import Derived.Test.YtfgjbflddabdcaaGreatDoorWMsgR
import Derived.Test.YtfgjbflddabdcaaGreatDoorWMsgS
import Derived.Deep.RegionWith
namespace Go.Proofs.YtfgjbflddabdcaaGreatDoor
open Go.RowKit Go.Larder
set_option linter.unusedVariables false
set_option linter.unusedSimpArgs false
set_option maxHeartbeats 4000000 in
set_option maxRecDepth 100000 in
theorem w_WriteRespR (mt : List UInt8) (hmt : mt.length ≤ 1048576) (m : Int) (hm : -9223372036854775808 ≤ m ∧ m ≤ 9223372036854775807) (t : List UInt8) (ht : t.length ≤ 1048576) (A : Option Addr) (l : List Fld) (c : Nat) (hj : (l.map (fun f => f.1.length + f.2.length + 3)).sum ≤ 1048576) (b : List UInt8) (hb : b.length ≤ 1048576) (w : World) (hr : ReadL encF w w.heap.size A l) :
    Calls Tryz.prog 10 #[S mt, .agg #[.int .i64 m, S t, .slice A l.length c, S b]] w (StPost w (msgSE mt m t l b)) := by
  have hb0 : Below w.heap.size w (w.alloc (.cells #[.int .i64 m, S t, .slice A l.length c, S b] 30)) := (Below.refl _ _).alloc (Nat.le_refl _) _
  have bx := BoxAt.new w [.int .i64 m, S t, .slice A l.length c, S b] 30
  have hr0 := (hr.below hb0 (Nat.le_refl _)).more hb0.size

  have h1 := w_LineStatus m t (by omega) (w.alloc (.cells #[.int .i64 m, S t, .slice A l.length c, S b] 30))
  have hbox : ∀ j, j < 4 → True := fun _ _ => trivial
  have p0 := bx.cell (j := 0) rfl
  have p1 := bx.cell (j := 1) rfl
  unfold msgSE
  rcases statE_cases m t ht with ⟨n, hn, hz⟩ | ⟨f, hn, hfl⟩
  · rw [hn] at h1 ⊢
    clear hn hr hr0
    go_enter Tryz.func10, Tryz.ntmps10
    go_wp2_with fail
    refine h1.mono ?_
    rintro e w1 ⟨rfl, hb1⟩
    go_wp2_with fail
    go_ret2
    exact ⟨rfl, hb0.trans (hb1.mono hb0.size)⟩
  · rw [hn] at h1 ⊢
    clear hn hr
    have h2 := fun W hrW => w_message f hfl false mt m l hj A c b hb W hrW
    simp only
    generalize msgE _ _ _ f b = E at *
    clear hj
    go_enter Tryz.func10, Tryz.ntmps10
    go_wp2_with fail
    refine h1.mono ?_
    rintro e w1 ⟨rfl, hb1⟩
    have bx1 := bx.keep hb1
    have hB1 := hb0.trans (hb1.mono hb0.size)
    have hr1 := (hr0.below hb1 (Nat.le_refl _)).more hb1.size

    have h21 := h2 _ hr1
    have p0' := bx1.cell (j := 0) rfl
    have p1' := bx1.cell (j := 1) rfl
    have p2' := bx1.cell (j := 2) rfl
    have p3' := bx1.cell (j := 3) rfl
    clear h1 h2 hr0 hr1 bx bx1 p0 p1
    go_wp2_with fail
    refine h21.mono ?_
    intro e w2 hp2
    obtain ⟨a2, n2, rfl, he2, hb2⟩ := flatSt hp2
    clear hp2 h21
    go_wp2_with fail
    go_ret2
    have hB2 := hB1.trans (hb2.mono hB1.size)
    cases E with
    | error x => injection he2 with q1 q2; subst q1 q2; exact ⟨rfl, hB2⟩
    | ok x => injection he2 with q1 q2; subst q1 q2; exact ⟨rfl, hB2⟩
end Go.Proofs.YtfgjbflddabdcaaGreatDoor
