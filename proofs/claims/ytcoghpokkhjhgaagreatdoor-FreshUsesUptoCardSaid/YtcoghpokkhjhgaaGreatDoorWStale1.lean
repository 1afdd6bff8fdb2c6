/- Walks: the reference's some, at literal lists. -/
import Derived.Test.YtcoghpokkhjhgaaGreatDoorWStale
namespace Go.Proofs.YtcoghpokkhjhgaaGreatDoor
open Go.RowKit Go.Larder
set_option linter.unusedVariables false
set_option linter.unusedSimpArgs false
theorem w_some1 (n : List UInt8) (D : List Dir) (hl : D.length ≤ 1000) (A : Option Addr) (c : Nat) (W : World) (hr : ReadL encD W W.heap.size A D) :
    Calls Tryz.prog 26 #[.slice A D.length c, .slice (some ⟨W.heap.size, 0, none⟩) 1 1] (W.alloc (.cells #[S n] 9)) (fun e w' => e = .returned (.bool (findD n D).2) ∧ Below W.heap.size W w') := by
  have hb0 : Below W.heap.size W (W.alloc (.cells #[S n] 9)) := (Below.refl _ _).alloc (Nat.le_refl _) _
  have h := w_someR [n] (by simp) D hl A c (some ⟨W.heap.size, 0, none⟩) 1 (W.alloc (.cells #[S n] 9)) ((hr.below hb0 (Nat.le_refl _)).more hb0.size) ((ReadL.lit (E := encS) W #[S n] 9 [n] rfl).more (by simp))
  refine h.mono ?_
  rintro e w' ⟨rfl, hb⟩
  exact ⟨by simp [someD], hb0.trans (hb.mono hb0.size)⟩
theorem w_some4 (n1 n2 n3 n4 : List UInt8) (D : List Dir) (hl : D.length ≤ 1000) (A : Option Addr) (c : Nat) (W : World) (hr : ReadL encD W W.heap.size A D) :
    Calls Tryz.prog 26 #[.slice A D.length c, .slice (some ⟨W.heap.size, 0, none⟩) 4 4] (W.alloc (.cells #[S n1, S n2, S n3, S n4] 9)) (fun e w' => e = .returned (.bool (someD [n1, n2, n3, n4] D)) ∧ Below W.heap.size W w') := by
  have hb0 : Below W.heap.size W (W.alloc (.cells #[S n1, S n2, S n3, S n4] 9)) := (Below.refl _ _).alloc (Nat.le_refl _) _
  have h := w_someR [n1, n2, n3, n4] (by simp) D hl A c (some ⟨W.heap.size, 0, none⟩) 4 (W.alloc (.cells #[S n1, S n2, S n3, S n4] 9)) ((hr.below hb0 (Nat.le_refl _)).more hb0.size) ((ReadL.lit (E := encS) W #[S n1, S n2, S n3, S n4] 9 [n1, n2, n3, n4] rfl).more (by simp))
  refine h.mono ?_
  rintro e w' ⟨rfl, hb⟩
  exact ⟨rfl, hb0.trans (hb.mono hb0.size)⟩
end Go.Proofs.YtcoghpokkhjhgaaGreatDoor
