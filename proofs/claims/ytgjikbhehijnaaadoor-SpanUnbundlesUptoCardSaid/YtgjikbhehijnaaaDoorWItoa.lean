/- Numbers' digits: strconv.Itoa by the laid contract; the reference's Digits, chr. -/
import Derived.Test.YtgjikbhehijnaaaDoorChecked
import Derived.Test.YtgjikbhehijnaaaDoorBase
import Derived.Test.YtgjikbhehijnaaaDoorShelf
import Derived.Lib.LaidTab
import Derived.Lib.ItoaLen
import Derived.Stop.LaidErr
import Derived.MakeChecks
namespace Go.Proofs.YtgjikbhehijnaaaDoor
open Go.RowKit Go.Larder
set_option linter.unusedVariables false
set_option linter.unusedSimpArgs false

/-- The library's table of powers of ten. -/
def PW (w : World) : Prop := Lib.TabIs Tryd.prog w "internal/strconv.uint64pow10" .u64 Lib.pow10Tab
theorem PW.keep {w w' : World} (h : PW w) (hb : Below w.heap.size w w') : PW w' := by
  unfold PW Lib.TabIs World.var? at h ⊢
  cases hg : (Tryd.prog).globalNamed "internal/strconv.uint64pow10" with
  | none => rw [hg] at h; cases h
  | some g =>
    rw [hg] at h
    simp only [Option.bind_some] at h ⊢
    have hlt : g < w.heap.size := by
      rcases Nat.lt_or_ge g w.heap.size with h' | h'
      · exact h'
      · rw [Array.getElem?_eq_none h'] at h; cases h
    rw [hb.block g hlt]
    exact h
theorem PW.drew {w : World} (h : PW w) : PW w.drew := h
theorem PW.laid {l : List (String × DataW Unit)} {w : World} (hp : (l.all fun x => x.2.handleName?.isNone) = true) (h : laidMetH Tryd.prog l w) (n : Nat) (hn : l[n]? = some ("internal/strconv.uint64pow10", Lib.tabData .u64 Lib.pow10Tab)) : PW w := by
  rw [MakeChecks.laidMetH_plain _ _ _ hp] at h
  clear hp
  induction l generalizing n with
  | nil => cases hn
  | cons x l ih =>
    cases n with
    | zero =>
      have hx : x = ("internal/strconv.uint64pow10", Lib.tabData .u64 Lib.pow10Tab) := by simpa using hn
      subst hx
      exact Lib.tabIs_of_head (g := 5) (t := 204) (e := 68) (n := 20) (by kernel_rfl) (by kernel_rfl) Tryd.underlying204 Tryd.underlying68 (by kernel_rfl) (by kernel_rfl) h
    | succ n => exact ih h.tail n (by simpa using hn)

theorem grow_blw (B : Nat) (w : World) (q : Nat) (os : Array Obj) (hB : B ≤ w.heap.size) : Below B w (Go.Sort.grow (w.drewN q) os) :=
  ⟨rfl, rfl, rfl, by first | (simp [Go.Sort.grow]; done) | (simp [Go.Sort.grow]; omega), fun i hi => by
    show ((w.drewN q).heap ++ os)[i]? = _
    rw [Array.getElem?_append_left (by show i < w.heap.size; omega)]
    rfl⟩

theorem w_Itoa (n : Int) (h : -9223372036854775808 ≤ n ∧ n ≤ 9223372036854775807) (w : World) (hP : PW w) :
    Calls Tryd.prog 97 #[.int .i64 n] w fun e w' => e = .returned (S (Lib.itoa n)) ∧ Below w.heap.size w w' := by
  refine (Tryd.strconv_Itoa n h.1 h.2 w hP).mono ?_
  rintro e w' ⟨he, k, os, rfl⟩
  exact ⟨he, grow_blw _ _ _ _ (Nat.le_refl _)⟩
theorem itoa_nn {n : Int} (h : 0 ≤ n) : Lib.itoa n = Lib.decDigits n.toNat := by unfold Lib.itoa; rw [if_neg (by omega)]

theorem dig_len {n : Int} (h0 : 0 ≤ n) (h1 : n ≤ 9223372036854775807) : (Lib.decDigits n.toNat).length ≤ 21 := by
  have := Lib.itoa_length_le n (by omega) h1
  rwa [itoa_nn h0] at this
theorem c1_chr (n : Int) (h : 0 ≤ n ∧ n < 256) (w : World) :
    Calls Tryd.prog 37 #[.int .i64 n] w fun e w' => e = .returned (S [UInt8.ofNat n.toNat]) ∧ Below w.heap.size w w' := by
  have hw : IntKind.u8.wrap n = n := by simp [IntKind.wrap, IntKind.bits, IntKind.signed]; omega
  have hs := fun w => run_lit_str (P := Tryd.prog) 67 9 Tryd.underlying67 Tryd.underlying5 Tryd.underlying9 w [n] #[.int .u8 n] rfl 1 1 rfl w.heap.size rfl
  simp only [List.map_cons, List.map_nil] at hs
  obtain ⟨h1, h2⟩ := h
  go_enter Tryd.func37, Tryd.ntmps37
  go_wp2_with fail
  go_ret
  exact ⟨rfl, (Below.refl _ _).alloc (Nat.le_refl _) _⟩
set_option maxHeartbeats 1000000 in
theorem w_Digits : ∀ (k : Nat) (n : Int), 0 ≤ n → n ≤ 9000000000000000000 → n.toNat < k → ∀ (w : World),
    Calls Tryd.prog 102 #[.int .i64 n] w fun e w' => e = .returned (S (Lib.decDigits n.toNat)) ∧ Below w.heap.size w w'
  | 0, n, _, _, hk, w => by omega
  | k + 1, n, h0, h1, hk, w => by
    by_cases h : n < 10
    · have hd : Lib.decDigits n.toNat = [UInt8.ofNat (48 + n).toNat] := by rw [Lib.decDigits, dif_pos (by omega)]; congr 2; omega
      rw [hd]
      clear hd
      go_enter Tryd.func102, Tryd.ntmps102
      go_wp2_with (go_at_call 37; refine Calls.mono (c1_chr _ ?_ _) ?_; omega; rintro e w1 ⟨rfl, hb1⟩)
      go_ret
      exact ⟨rfl, hb1⟩
    · have hd : Lib.decDigits n.toNat = Lib.decDigits (n / 10).toNat ++ [UInt8.ofNat (48 + n % 10).toNat] := by
        rw [Lib.decDigits, dif_neg (by omega)]
        congr 3 <;> omega
      have hdl := dig_len (n := n / 10) (by omega) (by omega)
      have ih := fun w => w_Digits k (n / 10) (by omega) (by omega) (by omega) w
      rw [hd]
      clear hd
      go_enter Tryd.func102, Tryd.ntmps102
      go_wp2_with (first
        | (go_at_call 102; refine (ih _).mono ?_; rintro e w1 ⟨rfl, hb1⟩)
        | (go_at_call 37; refine Calls.mono (c1_chr _ ?_ _) ?_; omega; rintro e w2 ⟨rfl, hb2⟩))
      go_ret
      exact ⟨by simp, hb1.trans (hb2.mono hb1.size)⟩
theorem w_Dig (n : Int) (h0 : 0 ≤ n) (h1 : n ≤ 9000000000000000000) (w : World) :
    Calls Tryd.prog 102 #[.int .i64 n] w fun e w' => e = .returned (S (Lib.decDigits n.toNat)) ∧ Below w.heap.size w w' :=
  w_Digits (n.toNat + 1) n h0 h1 (by omega) w
end Go.Proofs.YtgjikbhehijnaaaDoor
