/- Walks: fresh.stale; the reference's some. -/
import Derived.Test.YtmhhjmncbclihaaSpecUse
namespace Go.Proofs.Ytmhhjmncbclihaa
open Go.RowKit Go.Larder
set_option linter.unusedVariables false
set_option linter.unusedSimpArgs false
set_option maxHeartbeats 1000000 in
theorem w_someR (ns : List (List UInt8)) (hns : ns.length ≤ 1000) (l : List Dir) (hl : l.length ≤ 1000) (A : Option Addr) (c : Nat) (A' : Option Addr) (c' : Nat) (w : World) (hr : ReadL encD w w.heap.size A l) (hr' : ReadL encL w w.heap.size A' ns) :
    Calls Try.prog 91 #[.slice A l.length c, .slice A' ns.length c'] w (fun e w' => e = .returned (.bool (someD ns l)) ∧ Below w.heap.size w w') := by
  have hf := fun n W hrW => w_findR n l (by omega) A c W hrW
  obtain ⟨R, hR⟩ : ∃ R, someD ns l = R := ⟨_, rfl⟩
  rw [hR]
  unfold someD at hR
  have HR := Lib.hid hR
  clear hR
  go_enter Try.func91, Try.ntmps91
  go_wp2_with fail
  go_loopw [11] (fun i' wr => ∃ k : Nat, i' = .int .i64 k ∧ k ≤ ns.length ∧ Hid (((ns.drop k).any fun n => (findD n l).2) = R) ∧ Below w.heap.size w wr) (fun i' _ => ns.length - (intOf i').toNat)
  case atStart => exact ⟨0, rfl, by omega, HR, Below.refl _ _⟩
  case round =>
    obtain ⟨k, rfl, hk, heq, hbel⟩ := hrel
    have hbs := hbel.size
    by_cases hlt : k < ns.length
    · obtain ⟨n, hx, hs⟩ := drop_step hlt
      obtain ⟨g, off, rfl, hgb, hc0⟩ := (hr'.below hbel (Nat.le_refl _)).at_S hx
      have he := heq.out
      rw [hs, List.any_cons] at he
      have hgn := hf n wr ((hr.below hbel (Nat.le_refl _)).more hbs)
      generalize findD n l = fd at *
      obtain ⟨⟨d1, d2, d3⟩, fb⟩ := fd
      simp only at he hgn
      cases fb
      · have He := Lib.hid (show ((ns.drop (k + 1)).any fun n => (findD n l).2) = R from by simpa using he)
        clear he hs hx heq hf HR
        go_wp2_with fail
        refine hgn.mono ?_
        rintro e w2 ⟨rfl, hb2⟩
        go_wp2_with fail
        go_roundw
        case rel => exact ⟨k + 1, by go_num, by omega, He, (hbel.trans (hb2.mono hbs)).alloc (Nat.le_trans hbs hb2.size) _⟩
        case measure => simp [intOf]; omega
      · have He := Lib.hid (show R = true from by simpa using he.symm)
        clear he hs hx heq hf HR
        go_wp2_with fail
        refine hgn.mono ?_
        rintro e w2 ⟨rfl, hb2⟩
        go_wp2_with fail
        go_ret
        rw [He.out]
        exact ⟨rfl, (hbel.trans (hb2.mono hbs)).alloc (Nat.le_trans hbs hb2.size) _⟩
    · have he := heq.out
      rw [drop_end hlt] at he
      have He := Lib.hid (show R = false from he.symm)
      clear he heq hf HR
      go_wp2_with fail
      go_ret
      rw [He.out]
      exact ⟨rfl, hbel⟩
end Go.Proofs.Ytmhhjmncbclihaa
