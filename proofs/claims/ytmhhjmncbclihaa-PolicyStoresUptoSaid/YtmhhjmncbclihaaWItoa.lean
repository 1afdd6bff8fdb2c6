/- Numbers' digits: strconv.Itoa by the laid contract; the reference's Digits, chr. -/
import Derived.Test.YtmhhjmncbclihaaChecked
import Derived.Test.YtmhhjmncbclihaaSpecs
import Derived.Test.YtmhhjmncbclihaaShelf
import Derived.Lib.LaidTab
import Derived.Lib.ItoaLen
import Derived.Stop.LaidErr
import Derived.MakeChecks
namespace Go.Proofs.Ytmhhjmncbclihaa
open Go.RowKit Go.Larder
set_option linter.unusedVariables false
set_option linter.unusedSimpArgs false

/-- The library's table of powers of ten. -/
def PW (w : World) : Prop := Lib.TabIs Try.prog w "internal/strconv.uint64pow10" .u64 Lib.pow10Tab
theorem PW.keep {w w' : World} (h : PW w) (hb : Below w.heap.size w w') : PW w' := by
  unfold PW Lib.TabIs World.var? at h ⊢
  cases hg : (Try.prog).globalNamed "internal/strconv.uint64pow10" with
  | none => rw [hg] at h; cases h
  | some g =>
    rw [hg] at h
    simp only [Option.bind_some] at h ⊢
    have hlt : g < w.heap.size := by
      rcases Nat.lt_or_ge g w.heap.size with h' | h'
      · exact h'
      · rw [Array.getElem?_eq_none h'] at h; cases h
    rw [hb.block g hlt]
    exact h
theorem PW.drew {w : World} (h : PW w) : PW w.drew := h
theorem grow_blw (B : Nat) (w : World) (q : Nat) (os : Array Obj) (hB : B ≤ w.heap.size) : Below B w (Go.Sort.grow (w.drewN q) os) :=
  ⟨rfl, rfl, rfl, by first | (simp [Go.Sort.grow]; done) | (simp [Go.Sort.grow]; omega), fun i hi => by
    show ((w.drewN q).heap ++ os)[i]? = _
    rw [Array.getElem?_append_left (by show i < w.heap.size; omega)]
    rfl⟩

theorem itoa_nn {n : Int} (h : 0 ≤ n) : Lib.itoa n = Lib.decDigits n.toNat := by unfold Lib.itoa; rw [if_neg (by omega)]

theorem dig_len {n : Int} (h0 : 0 ≤ n) (h1 : n ≤ 9223372036854775807) : (Lib.decDigits n.toNat).length ≤ 21 := by
  have := Lib.itoa_length_le n (by omega) h1
  rwa [itoa_nn h0] at this
theorem c1_chr (n : Int) (h : 0 ≤ n ∧ n < 256) (w : World) :
    Calls Try.prog 63 #[.int .i64 n] w fun e w' => e = .returned (S [UInt8.ofNat n.toNat]) ∧ Below w.heap.size w w' := by
  have hw : IntKind.u8.wrap n = n := by simp [IntKind.wrap, IntKind.bits, IntKind.signed]; omega
  have hs := fun w => run_lit_str (P := Try.prog) 78 9 Try.underlying78 Try.underlying5 Try.underlying9 w [n] #[.int .u8 n] rfl 1 1 rfl w.heap.size rfl
  simp only [List.map_cons, List.map_nil] at hs
  obtain ⟨h1, h2⟩ := h
  go_enter Try.func63, Try.ntmps63
  go_wp2_with fail
  go_ret
  exact ⟨rfl, (Below.refl _ _).alloc (Nat.le_refl _) _⟩
end Go.Proofs.Ytmhhjmncbclihaa
