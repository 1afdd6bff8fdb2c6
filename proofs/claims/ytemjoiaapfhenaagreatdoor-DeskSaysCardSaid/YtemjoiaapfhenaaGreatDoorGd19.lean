/- WSnum -/
import Derived.Test.YtemjoiaapfhenaaGreatDoorGd03
import Derived.Test.YtemjoiaapfhenaaGreatDoorWSpan0
import Derived.Test.YtemjoiaapfhenaaGreatDoorGd00

/- WSnum -/
section
namespace Go.Proofs.YtemjoiaapfhenaaGreatDoor
open Go.RowKit Go.Larder
set_option linter.unusedVariables false
set_option linter.unusedSimpArgs false
/-- What span.number answers: some number, and whether the text is just its digits, at most five. -/
structure IsNum (s : List UInt8) (n : Int) (ok : Bool) : Prop where
  lo : -9223372036854775808 ≤ n
  hi : n ≤ 9223372036854775807
  yes : ok = true → 0 ≤ n ∧ n ≤ 99999 ∧ s = dL n
  all : ∀ m : Int, 0 ≤ m → m ≤ 99999 → s = dL m → ok = true
def NumOut (w : World) (s : List UInt8) (e : Ending) (w' : World) : Prop := ∃ n ok, e = .returned (.tuple #[.int .i64 n, .bool ok]) ∧ IsNum s n ok ∧ Below w.heap.size w w'
theorem atoi_is {s : List UInt8} {m : Int} (h0 : 0 ≤ m) (h1 : m ≤ 99999) (h : s = dL m) : Lib.atoiAll s = .ok m := by
  subst h
  have := atoiAll_dec (n := m.toNat) (by omega)
  rw [this, show ((m.toNat : Nat) : Int) = m from by omega]
set_option maxHeartbeats 1000000 in
theorem w_snumber (s : List UInt8) (hl : s.length ≤ 140737488355328) (w : World) (hE : EV w) (hP : PW w) :
    Calls Tryz.prog 208 #[S s] w (NumOut w s) := by
  have hat := fun w hE => w_Atoi s hl w hE
  have hai := fun m h0 h1 h => atoi_is (s := s) (m := m) h0 h1 h
  have Hai := Lib.hid hai
  clear hai
  go_enter Tryz.func208, Tryz.ntmps208
  go_wp2_with fail
  refine (hat _ hE).mono ?_
  rintro e w1 ⟨ho, hb1⟩
  have hP1 := hP.keep hb1
  rcases ho with ⟨v, hv, rfl⟩ | ⟨v, t, p, ⟨hv0, hv1⟩, hno, rfl⟩
  · have hvb := Lib.atoiAll_bounds hv
    obtain ⟨hv0, hv1⟩ := hvb
    have Hv := Lib.hid hv
    clear hv
    have hin := fun w => w_isNumber v w
    cases hn : isNum v
    · have Hf := Lib.hid (show IsNum s v false from ⟨hv0, hv1, fun h => (by cases h), fun m h0 h1 h => by
        have := Hai.out m h0 h1 h
        rw [Hv.out] at this
        injection this with this
        subst this
        rw [show isNum v = true from by unfold isNum; simp; omega] at hn; cases hn⟩)
      rw [hn] at hin
      clear hn
      go_wp2_with (go_at_call 231; refine (hin _).mono ?_; rintro e w' ⟨rfl, rfl⟩)
      go_ret2
      exact ⟨v, false, rfl, Hf.out, hb1⟩
    · have hn2 : 0 ≤ v ∧ v ≤ 99999 := by unfold isNum at hn; simp at hn; exact hn
      obtain ⟨h0, h1⟩ := hn2
      rw [hn] at hin
      clear hn
      have hit := fun w hP => w_Itoa v (by omega) w hP
      rw [itoa_nn h0] at hit
      have Hy := Lib.hid (show IsNum s v (dL v == s) from ⟨hv0, hv1, fun h => ⟨h0, h1, (by simpa using h : dL v = s).symm⟩, fun m g0 g1 h => by
        have := Hai.out m g0 g1 h
        rw [Hv.out] at this
        injection this with this
        subst this
        simp [h]⟩)
      have hit2 : ∀ w, PW w → Calls Tryz.prog 12 #[.int .i64 v] w fun e w' => e = .returned (S (dL v)) ∧ Below w.heap.size w w' := hit
      clear hit
      generalize dL v = D at *
      go_wp2_with (first
        | (go_at_call 231; refine (hin _).mono ?_; rintro e w' ⟨rfl, rfl⟩)
        | (go_at_call 12; refine (hit2 _ hP1).mono ?_; rintro e w2 ⟨rfl, hb2⟩))
      go_ret2
      exact ⟨v, D == s, by simp, Hy.out, hb1.trans (hb2.mono hb1.size)⟩
  · have Hf := Lib.hid (show IsNum s v false from ⟨hv0, hv1, fun h => (by cases h), fun m h0 h1 h => absurd (Hai.out m h0 h1 h) (hno m)⟩)
    clear hno
    go_wp2_with fail
    go_ret2
    exact ⟨v, false, rfl, Hf.out, hb1⟩
end Go.Proofs.YtemjoiaapfhenaaGreatDoor
end
