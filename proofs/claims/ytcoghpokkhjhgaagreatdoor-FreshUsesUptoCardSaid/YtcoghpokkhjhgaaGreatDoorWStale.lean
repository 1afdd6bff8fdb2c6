/- Walks: fresh.stale; the reference's some. -/
import Derived.Test.YtcoghpokkhjhgaaGreatDoorSpecUse
namespace Go.Proofs.YtcoghpokkhjhgaaGreatDoor
open Go.RowKit Go.Larder
set_option linter.unusedVariables false
set_option linter.unusedSimpArgs false
set_option maxHeartbeats 1000000 in
theorem w_stale (l : List Dir) (hl : l.length ≤ 1000) (hx : ∀ d ∈ l, d.2.2.length ≤ 140737488351232) (by_ : Int) (A : Option Addr) (c : Nat) (w : World) (hr : ReadL encD w w.heap.size A l) :
    Calls Tryz.prog 21 #[.slice A l.length c, .int .i64 by_] w fun e w' => e = .returned (.bool (staleI (findD msN l) by_)) ∧ Below w.heap.size w w' := by
  obtain ⟨R, hR⟩ : ∃ R, staleI (findD msN l) by_ = R := ⟨_, rfl⟩
  rw [hR]
  have HR := Lib.hid hR
  have hsc := fun A' c' W hrW => w_Seconds msN l (by omega) hx A' c' W hrW
  clear hR
  go_enter Tryz.func21, Tryz.ntmps21
  go_wp2_with fail
  go_loopw [11] (fun i' wr => ∃ k : Nat, i' = .int .i64 k ∧ k ≤ l.length ∧ Hid (findD msN (l.drop k) = findD msN l) ∧ Below w.heap.size w wr) (fun i' _ => l.length - (intOf i').toNat)
  case atStart => exact ⟨0, rfl, by omega, Lib.hid rfl, Below.refl _ _⟩
  case round =>
    obtain ⟨k, rfl, hk, heq, hbel⟩ := hrel
    have hbs := hbel.size
    by_cases hlt : k < l.length
    · obtain ⟨⟨n, b, a⟩, hfx, hs⟩ := drop_step hlt
      obtain ⟨g, off, hA, hgb, hc0, hc1, hc2⟩ := (hr.below hbel (Nat.le_refl _)).at_D hfx
      have he := heq.out
      rw [hs] at he
      have hb1 : Below w.heap.size w (wr.alloc (.cells #[S n, .bool b, S a] 55)) := hbel.alloc hbs _
      have bx := BoxAt.new wr [S n, .bool b, S a] 55
      have hrx := ((hr.below hbel (Nat.le_refl _)).alloc hbs (.cells #[S n, .bool b, S a] 55)).more (B' := (wr.alloc (.cells #[S n, .bool b, S a] 55)).heap.size) (by simp; omega)
      subst hA
      cases hw : (n == msN)
      · rw [findD_skip (by exact hw)] at he
        have He := Lib.hid he
        have hw2 : ¬ n = msN := by simpa using hw
        have hw3 : (n == [109, 97, 120, 45, 115, 116, 97, 108, 101]) = false := hw
        clear he hs hfx heq hsc HR
        go_wp2_with fail
        go_roundw
        case rel => exact ⟨k + 1, by go_num, by omega, He, hb1⟩
        case measure => simp [intOf]; omega
      · rw [findD_hit (by exact hw)] at he
        have hn : n = msN := by simpa using hw
        rw [← he] at hsc
        simp only at hsc
        have HR2 := Lib.hid (show R = (!b || decide (by_ ≤ secs a)) from by rw [← HR.out, ← he]; simp [staleI])
        clear he hs hfx heq HR hw
        subst hn
        generalize secs a = sa at *
        have hscx := hsc _ c _ hrx
        clear hsc
        go_wp2_with fail
        refine hscx.mono ?_
        rintro e w2 ⟨rfl, hb2⟩
        have bx2 := bx.keep hb2
        have p1 := bx2.cell (j := 1) rfl
        have hB := hb1.trans (hb2.mono hb1.size)
        cases b
        · go_wp2_with fail
          go_ret
          rw [HR2.out]
          exact ⟨rfl, hB⟩
        · go_wp2_with fail
          go_ret
          rw [HR2.out]
          exact ⟨by simp, hB⟩
    · have he := heq.out
      rw [drop_end hlt] at he
      have HR2 := Lib.hid (show R = false from by rw [← HR.out, ← he]; rfl)
      clear he heq HR hsc
      go_wp2_with fail
      go_ret
      rw [HR2.out]
      exact ⟨rfl, hbel⟩
set_option maxHeartbeats 1000000 in
theorem w_someR (ns : List (List UInt8)) (hns : ns.length ≤ 1000) (l : List Dir) (hl : l.length ≤ 1000) (A : Option Addr) (c : Nat) (A' : Option Addr) (c' : Nat) (w : World) (hr : ReadL encD w w.heap.size A l) (hr' : ReadL encS w w.heap.size A' ns) :
    Calls Tryz.prog 26 #[.slice A l.length c, .slice A' ns.length c'] w (fun e w' => e = .returned (.bool (someD ns l)) ∧ Below w.heap.size w w') := by
  have hf := fun n W hrW => w_findR n l (by omega) A c W hrW
  obtain ⟨R, hR⟩ : ∃ R, someD ns l = R := ⟨_, rfl⟩
  rw [hR]
  unfold someD at hR
  have HR := Lib.hid hR
  clear hR
  go_enter Tryz.func26, Tryz.ntmps26
  go_wp2_with fail
  go_loopw [11] (fun i' wr => ∃ k : Nat, i' = .int .i64 k ∧ k ≤ ns.length ∧ Hid (((ns.drop k).any fun n => (findD n l).2) = R) ∧ Below w.heap.size w wr) (fun i' _ => ns.length - (intOf i').toNat)
  case atStart => exact ⟨0, rfl, by omega, HR, Below.refl _ _⟩
  case round =>
    obtain ⟨k, rfl, hk, heq, hbel⟩ := hrel
    have hbs := hbel.size
    by_cases hlt : k < ns.length
    · obtain ⟨n, hx, hs⟩ := drop_step hlt
      obtain ⟨g, off, rfl, hgb, hc0⟩ := (hr'.below hbel (Nat.le_refl _)).at_S hx
      have he := heq.out
      rw [hs, List.any_cons] at he
      have hgn := hf n wr ((hr.below hbel (Nat.le_refl _)).more hbs)
      generalize findD n l = fd at *
      obtain ⟨⟨d1, d2, d3⟩, fb⟩ := fd
      simp only at he hgn
      cases fb
      · have He := Lib.hid (show ((ns.drop (k + 1)).any fun n => (findD n l).2) = R from by simpa using he)
        clear he hs hx heq hf HR
        go_wp2_with fail
        refine hgn.mono ?_
        rintro e w2 ⟨rfl, hb2⟩
        go_wp2_with fail
        go_roundw
        case rel => exact ⟨k + 1, by go_num, by omega, He, (hbel.trans (hb2.mono hbs)).alloc (Nat.le_trans hbs hb2.size) _⟩
        case measure => simp [intOf]; omega
      · have He := Lib.hid (show R = true from by simpa using he.symm)
        clear he hs hx heq hf HR
        go_wp2_with fail
        refine hgn.mono ?_
        rintro e w2 ⟨rfl, hb2⟩
        go_wp2_with fail
        go_ret
        rw [He.out]
        exact ⟨rfl, (hbel.trans (hb2.mono hbs)).alloc (Nat.le_trans hbs hb2.size) _⟩
    · have he := heq.out
      rw [drop_end hlt] at he
      have He := Lib.hid (show R = false from he.symm)
      clear he heq hf HR
      go_wp2_with fail
      go_ret
      rw [He.out]
      exact ⟨rfl, hbel⟩
end Go.Proofs.YtcoghpokkhjhgaaGreatDoor
