/- Walks: strconv.FormatInt to the base of 16 (numbers up to 5000), the reference's hex. -/
import Derived.Test.YtfgjbflddabdcaaGreatDoorChecked
import Derived.Test.YtfgjbflddabdcaaGreatDoorWStr
import Derived.Test.YtfgjbflddabdcaaGreatDoorBoxAt
import Derived.Test.YtfgjbflddabdcaaGreatDoorSpecs
import Derived.Laws.BitsAllLaws
import Derived.Lib.LaidTab
import Derived.Stop.LaidErr
import Derived.MakeChecks
namespace Go.Proofs.YtfgjbflddabdcaaGreatDoor
open Go.RowKit Go.Larder
set_option linter.unusedVariables false
set_option linter.unusedSimpArgs false
/-- The library's table, at the place that 16 asks for. -/
def BT (w : World) : Prop := w.cell? ⟨7, 15, none⟩ = some (.int .u8 4)
theorem BT.keep {w w' : World} (h : BT w) (hb : Below w.heap.size w w') : BT w' := by
  unfold BT at *
  have hlt : 7 < w.heap.size := by
    rcases Nat.lt_or_ge 7 w.heap.size with h' | h'
    · exact h'
    · simp [World.cell?, Array.getElem?_eq_none h'] at h
  exact (hb.cell (p := ⟨_, 15, none⟩) hlt).trans h
theorem BT.drew {w : World} (h : BT w) : BT w.drew := h
def btTab : List Int := [0, 1, 56, 2, 57, 49, 28, 3, 61, 58, 42, 50, 38, 29, 17, 4, 62, 47, 59, 36, 45, 43, 51, 22, 53, 39, 33, 30, 24, 18, 12, 5, 63, 55, 48, 27, 60, 41, 37, 16, 46, 35, 44, 21, 52, 32, 23, 11, 54, 26, 40, 15, 34, 20, 31, 10, 25, 14, 19, 9, 13, 8, 7, 6]
theorem BT.laid {l : List (String × DataW Unit)} {w : World} (hp : (l.all fun x => x.2.handleName?.isNone) = true) (h : laidMetH Tryz.prog l w) (n : Nat) (hn : l[n]? = some ("math/bits.deBruijn64tab", Lib.tabData .u8 btTab)) : BT w := by
  rw [MakeChecks.laidMetH_plain _ _ _ hp] at h
  clear hp
  induction l generalizing n with
  | nil => cases hn
  | cons x l ih =>
    cases n with
    | zero =>
      have hx : x = ("math/bits.deBruijn64tab", Lib.tabData .u8 btTab) := by simpa using hn
      subst hx
      have ht := Lib.tabIs_of_head (g := 7) (t := 174) (e := 5) (n := 64) (by kernel_rfl) (by kernel_rfl) Tryz.underlying174 Tryz.underlying5 (by kernel_rfl) (by kernel_rfl) h
      exact Lib.TabIs.cell ht (by kernel_rfl) 15 (by decide)
    | succ n => exact ih h.tail n (by simpa using hn)
theorem w_tz64 (w : World) (h : BT w) :
    Calls Tryz.prog 166 #[.int .u64 16] w fun e w' => e = .returned (.int .i64 4) ∧ w = w' := by
  have hb : bits BinOp.and IntKind.u64 16 (IntKind.u64.wrap (-16)) = 16 := by decide +kernel
  have hm : IntKind.u64.wrap 4573923408821661840 = 4573923408821661840 := by decide +kernel
  have h2 : w.cell? ⟨7, 15, none⟩ = some (.int .u8 4) := h
  go_enter Tryz.func166, Tryz.ntmps166
  go_wp2_with fail
  go_ret
  exact ⟨rfl, rfl⟩
theorem w_tz (w : World) (h : BT w) :
    Calls Tryz.prog 156 #[.int .u64 16] w fun e w' => e = .returned (.int .i64 4) ∧ w = w' := by
  go_enter Tryz.func156, Tryz.ntmps156
  go_wp2_with (go_at_call 166; refine (w_tz64 _ h).mono ?_; rintro e w' ⟨rfl, rfl⟩)
  go_ret
  exact ⟨rfl, rfl⟩
theorem w_p2 (w : World) : Calls Tryz.prog 155 #[.int .i64 16] w fun e w' => e = .returned (.bool true) ∧ w = w' := by
  have hb : bits BinOp.and IntKind.i64 16 15 = 0 := by decide +kernel
  go_enter Tryz.func155, Tryz.ntmps155
  go_wp2_with fail
  go_ret
  exact ⟨rfl, rfl⟩
theorem hx_and15 (m : Nat) (h : m ≤ 5000) : bits BinOp.and IntKind.u64 (m : Int) 15 = ((m % 16 : Nat) : Int) := by
  have h1 := u64_and_nat m 15 (by omega) (by omega)
  rw [show ((15 : Nat) : Int) = 15 from rfl] at h1
  rw [h1, show m &&& 15 = m % 16 from Nat.and_two_pow_sub_one_eq_mod m 4]
def digs36 : Array UInt8 := #[48, 49, 50, 51, 52, 53, 54, 55, 56, 57, 97, 98, 99, 100, 101, 102, 103, 104, 105, 106, 107, 108, 109, 110, 111, 112, 113, 114, 115, 116, 117, 118, 119, 120, 121, 122]
theorem run_dig : ∀ (k : Nat), k < 16 → ∀ w, (Instr.index 9 (.string ⟨#[48, 49, 50, 51, 52, 53, 54, 55, 56, 57, 97, 98, 99, 100, 101, 102, 103, 104, 105, 106, 107, 108, 109, 110, 111, 112, 113, 114, 115, 116, 117, 118, 119, 120, 121, 122]⟩) (.int .u64 (k : Int))).run Tryz.prog w = .ok (.int .u8 (hexd k).toNat) w := by
  apply sixteen <;> (intro w; kernel_rfl)
theorem rep_set {α : Type} (z v : α) (L : List α) (i : Nat) : (List.replicate (i + 1) z ++ L).set i v = List.replicate i z ++ v :: L := by
  induction i with
  | zero => rfl
  | succ i ih => rw [List.replicate_succ, List.cons_append, List.set_cons_succ, ih, List.replicate_succ, List.cons_append]
theorem rep_get {α : Type} (z : α) (L : List α) (i j : Nat) : (List.replicate i z ++ L)[i + j]? = L[j]? := by
  rw [List.getElem?_append_right (by simp)]; simp
theorem rep_at {α : Type} (z : α) (L : List α) (i j : Nat) (h : j < i) : (List.replicate i z ++ L)[j]? = some z := by
  rw [List.getElem?_append_left (by simpa using h), List.getElem?_replicate, if_pos h]
end Go.Proofs.YtfgjbflddabdcaaGreatDoor
