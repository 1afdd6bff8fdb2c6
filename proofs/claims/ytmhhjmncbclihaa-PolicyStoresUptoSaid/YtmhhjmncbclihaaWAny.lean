/- Walk: the reference's anyField. -/
import Derived.Test.YtmhhjmncbclihaaWDtE
namespace Go.Proofs.Ytmhhjmncbclihaa
open Go.RowKit Go.Larder
set_option linter.unusedVariables false
set_option linter.unusedSimpArgs false
theorem w_anyFieldR (ns : List (List UInt8)) (hns : ns.length ≤ 1000) (hnl : ∀ n ∈ ns, n.length ≤ 1000) (l : List Fld) (hj : (l.map (fun f => f.1.length + f.2.length + 3)).sum ≤ 1048576) (A : Option Addr) (c : Nat) (A' : Option Addr) (c' : Nat) (w : World) (hr : ReadL encF w w.heap.size A l) (hr' : ReadL encL w w.heap.size A' ns) :
    Calls Try.prog 92 #[.slice A l.length c, .slice A' ns.length c'] w (fun e w' => e = .returned (.bool (ns.any fun n => !(valsL (lowL n) l).isEmpty)) ∧ Below w.heap.size w w') := by
  have hg := fun n hn W hrW => w_GetRS n hn l hj A c W hrW
  obtain ⟨R, hR⟩ : ∃ R, (ns.any fun n => !(valsL (lowL n) l).isEmpty) = R := ⟨_, rfl⟩
  rw [hR]
  have HR := Lib.hid hR
  clear hR
  go_enter Try.func92, Try.ntmps92
  go_wp2_with fail
  go_loopw [11] (fun i' wr => ∃ k : Nat, i' = .int .i64 k ∧ k ≤ ns.length ∧ Hid (((ns.drop k).any fun n => !(valsL (lowL n) l).isEmpty) = R) ∧ Below w.heap.size w wr) (fun i' _ => ns.length - (intOf i').toNat)
  case atStart => exact ⟨0, rfl, by omega, HR, Below.refl _ _⟩
  case round =>
    obtain ⟨k, rfl, hk, heq, hbel⟩ := hrel
    have hbs := hbel.size
    by_cases hlt : k < ns.length
    · obtain ⟨n, hx, hs⟩ := drop_step hlt
      obtain ⟨g, off, rfl, hgb, hc0⟩ := (hr'.below hbel (Nat.le_refl _)).at_S hx
      have hn := hnl n (List.mem_of_getElem? hx)
      have he := heq.out
      rw [hs, List.any_cons] at he
      have hgn := hg n hn wr ((hr.below hbel (Nat.le_refl _)).more hbs)
      generalize Lib.join (valsL (lowL n) l) sepL = s at *
      cases hb : (!(valsL (lowL n) l).isEmpty)
      · rw [hb] at he hgn
        have He := Lib.hid (show ((ns.drop (k + 1)).any fun n => !(valsL (lowL n) l).isEmpty) = R from he)
        clear he hs hx heq hb hg HR
        go_wp2_with fail
        refine hgn.mono ?_
        rintro e w2 ⟨rfl, hb2⟩
        go_wp2_with fail
        go_roundw
        case rel => exact ⟨k + 1, by go_num, by omega, He, hbel.trans (hb2.mono hbs)⟩
        case measure => simp [intOf]; omega
      · rw [hb] at he hgn
        have He := Lib.hid (show R = true from he.symm)
        clear he hs hx heq hb hg HR
        go_wp2_with fail
        refine hgn.mono ?_
        rintro e w2 ⟨rfl, hb2⟩
        go_wp2_with fail
        go_ret
        rw [He.out]
        exact ⟨rfl, hbel.trans (hb2.mono hbs)⟩
    · have he := heq.out
      rw [drop_end hlt] at he
      have He := Lib.hid (show R = false from he.symm)
      clear he heq hg HR
      go_wp2_with fail
      go_ret
      rw [He.out]
      exact ⟨rfl, hbel⟩
end Go.Proofs.Ytmhhjmncbclihaa
