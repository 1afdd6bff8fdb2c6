/- Walks: a decoder's steps: the data of a chunk, the trailer. -/
import Derived.Test.YtfgjbflddabdcaaGreatDoorWDcH
import Derived.Test.YtfgjbflddabdcaaGreatDoorAppS
import Derived.Test.YtfgjbflddabdcaaGreatDoorSpecs
import Derived.Test.YtfgjbflddabdcaaGreatDoorWFp
import Derived.Deep.RegionLaw
namespace Go.Proofs.YtfgjbflddabdcaaGreatDoor
open Go.RowKit Go.Larder
set_option linter.unusedVariables false
set_option linter.unusedSimpArgs false
def DtOut (W : World) (b : Nat) (s out rest : List UInt8) (n : Nat) (A : Option Addr) (c : Nat) (done bad : Bool) (e : Ending) (W' : World) : Prop :=
  Below b W W' ∧ if s.length ≤ n ∨ s.drop n = [13] then e = .returned (.tuple #[.int .i64 0, .int .i64 8]) ∧ BoxAt W' b 127 (decC 142 rest n A out.length c done bad) ∧ OwnL encB W' (b + 1) 5 A c out
    else if (s.drop n).take 2 = [13, 10] then e = .returned (.tuple #[.int .i64 ((n : Int) + 2), .int .i64 0]) ∧ ∃ A' c', BoxAt W' b 127 (decC 113 rest n A' (out ++ s.take n).length c' done bad) ∧ OwnL encB W' (b + 1) 5 A' c' (out ++ s.take n)
    else e = .returned (.tuple #[.int .i64 0, .int .i64 3]) ∧ BoxAt W' b 127 (decC 142 rest n A out.length c done bad) ∧ OwnL encB W' (b + 1) 5 A c out
set_option maxHeartbeats 8000000 in
set_option maxRecDepth 100000 in
theorem dc_data (b : Nat) (s out rest : List UInt8) (hs : s.length ≤ 2097152) (n : Nat) (hn : out.length + n ≤ 5000) (A : Option Addr) (c : Nat) (done bad : Bool) (W : World) (bx : BoxAt W b 127 (decC 142 rest n A out.length c done bad)) (hown : OwnL encB W (b + 1) 5 A c out) :
    Calls Tryz.prog 142 #[.pointer (some ⟨b, 0, none⟩), S s] W (DtOut W b s out rest n A c done bad) := by
  have c2 := bx.cell (j := 2) rfl
  have c3 := bx.cell (j := 3) rfl
  have hbl := bx.lt
  unfold DtOut
  by_cases h1 : s.length ≤ n
  · simp only [if_pos (show s.length ≤ n ∨ s.drop n = [13] from .inl h1)]
    have h1i : (s.length : Int) ≤ n := by omega
    go_enter Tryz.func142, Tryz.ntmps142
    go_wp2_with fail
    go_ret2
    exact ⟨Below.refl _ _, rfl, bx, hown⟩
  · have sl := fun w => run_sliceT (P := Tryz.prog) 9 Tryz.underlying9 s (n : Int) (by omega) (by omega) w
    rw [Int.toNat_natCast] at sl
    have h1i : ¬ (s.length : Int) ≤ n := by omega
    cases h13 : (s.drop n == [13])
    · have h13' : ¬ s.drop n = [13] := by simpa using h13
      have hpf := fun W => w_HasPrefix (s.drop n) [13, 10] (by rw [List.length_drop]; omega) (by simp) W
      rw [hasP] at hpf
      simp only [if_neg (show ¬ (s.length ≤ n ∨ s.drop n = [13]) from fun h => h.elim h1 h13')]
      cases h2 : ((s.drop n).take 2 == [13, 10])
      · have h2' : ¬ (s.drop n).take 2 = [13, 10] := by simpa using h2
        simp only [if_neg h2']
        rw [h2] at hpf
        clear h2 h2' h13'
        generalize s.drop n = q at *
        go_enter Tryz.func142, Tryz.ntmps142
        go_wp2_with (go_at_call 115; refine (hpf _).mono ?_; rintro e w' ⟨rfl, rfl⟩)
        go_ret2
        exact ⟨Below.refl _ _, rfl, bx, hown⟩
      · have h2' : (s.drop n).take 2 = [13, 10] := by simpa using h2
        simp only [if_pos h2']
        rw [h2] at hpf
        have sk := fun w => run_sliceU (P := Tryz.prog) 9 Tryz.underlying9 s (n : Int) (by omega) (by omega) w
        rw [Int.toNat_natCast] at sk
        have hlm : (s.take n).length = n := by rw [List.length_take]; omega
        have f3 := bx.free 3
        clear h2 h2' h13'
        generalize s.drop n = q at *
        generalize s.take n = m at *
        go_enter Tryz.func142, Tryz.ntmps142
        go_wp2_with (go_at_call 115; refine (hpf _).mono ?_; rintro e w' ⟨rfl, rfl⟩)
        have g2 := bx.drew.cell (j := 2) rfl
        have g3 := bx.drew.cell (j := 3) rfl
        go_region_law (refine step_app_str (l := out) (base := b + 1) Tryz.underlying81 Tryz.underlying9 (by kernel_rfl) (by rfl) _ _ (by rfl) (by rfl) (by first | exact hown | exact hown.drew) m (by rfl) (by omega) (by exact hbl) ?_; intro A2 k2 w2 ho2 hb2; have bx2 := bx.drew.kept hb2 (Nat.lt_succ_self b); have q3 := bx2.cell (j := 3) rfl; have r3 := bx2.free 3; have bx3 := bx2.set 3 (.slice A2 (out.length + n) k2); have s0 := bx3.cell (j := 0) rfl; have t0 := bx3.free 0; have bx4 := bx3.set 0 (.func (.func 113) #[] #[]); have s2 := bx4.cell (j := 2) rfl)
        all_goals go_wp2_with fail
        all_goals go_ret2
        all_goals
          refine ⟨Below.setCell (Below.setCell ((Below.refl b W).drew.trans (hb2.mono (Nat.le_succ b))) (p := ⟨b, 3, none⟩) (Nat.le_refl _) _) (p := ⟨b, 0, none⟩) (Nat.le_refl _) _, by simp, A2, k2, ?_, own_box (own_box ho2 3 _) 0 _⟩
          simpa [decC, hlm] using bx4
    · have h13' : s.drop n = [13] := by simpa using h13
      simp only [if_pos (show s.length ≤ n ∨ s.drop n = [13] from .inr h13')]
      clear h13'
      generalize s.drop n = q at *
      go_enter Tryz.func142, Tryz.ntmps142
      go_wp2_with fail
      go_ret2
      exact ⟨Below.refl _ _, rfl, bx, hown⟩
def TrOut (W : World) (b : Nat) (s out rest : List UInt8) (left : Int) (A : Option Addr) (c : Nat) (bad : Bool) (e : Ending) (W' : World) : Prop :=
  Below b W W' ∧ OwnL encB W' (b + 1) 5 A c out ∧ match fpE s with
    | .error n => e = .returned (.tuple #[.int .i64 0, .int .i64 n]) ∧ BoxAt W' b 127 (decC 143 rest left A out.length c false bad)
    | .ok (_, k) => e = .returned (.tuple #[.int .i64 k, .int .i64 0]) ∧ BoxAt W' b 127 (decC 143 rest left A out.length c true bad)
set_option maxHeartbeats 4000000 in
theorem dc_trailer (b : Nat) (s out rest : List UInt8) (hs : s.length ≤ 1048576) (left : Int) (A : Option Addr) (c : Nat) (done bad : Bool) (W : World) (hM : ML W) (bx : BoxAt W b 127 (decC 143 rest left A out.length c done bad)) (hown : OwnL encB W (b + 1) 5 A c out) :
    Calls Tryz.prog 143 #[.pointer (some ⟨b, 0, none⟩), S s] W (TrOut W b s out rest left A c bad) := by
  have hfp := w_FParse s hs W hM
  have hbl := bx.lt
  unfold TrOut
  cases hq : fpE s with
  | error n =>
    have hne : (n == 0) = false := by have := fpE_err hq; simpa using this
    rw [hq] at hfp
    simp only [FpPost] at hfp ⊢
    clear hq
    go_enter Tryz.func143, Tryz.ntmps143
    go_wp2_with fail
    refine hfp.mono ?_
    rintro e w1 ⟨rfl, hb1⟩
    have bx1 := bx.keep hb1
    have c4 := bx1.cell (j := 4) rfl
    have f4 := bx1.free 4
    go_wp2_with fail
    go_ret2
    exact ⟨(hb1.mono (Nat.le_of_lt hbl)).setCell (p := ⟨b, 4, none⟩) (Nat.le_refl _) _, own_box (hown.below hb1 (Nat.le_refl _)) 4 _, rfl, by simpa [decC] using bx1.set 4 (.bool false)⟩
  | ok p =>
    obtain ⟨o, k⟩ := p
    rw [hq] at hfp
    simp only [FpPost] at hfp ⊢
    clear hq
    go_enter Tryz.func143, Tryz.ntmps143
    go_wp2_with fail
    refine hfp.mono ?_
    rintro e w1 ⟨A1, c1, rfl, ho1, hb1⟩
    have bx1 := bx.keep hb1
    have c4 := bx1.cell (j := 4) rfl
    have f4 := bx1.free 4
    go_wp2_with fail
    go_ret2
    exact ⟨(hb1.mono (Nat.le_of_lt hbl)).setCell (p := ⟨b, 4, none⟩) (Nat.le_refl _) _, own_box (hown.below hb1 (Nat.le_refl _)) 4 _, rfl, by simpa [decC] using bx1.set 4 (.bool true)⟩
end Go.Proofs.YtfgjbflddabdcaaGreatDoor
