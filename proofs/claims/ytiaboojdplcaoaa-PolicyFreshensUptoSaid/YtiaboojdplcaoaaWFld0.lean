/- Walks: the library's list functions at fields. -/
import Derived.Test.YtiaboojdplcaoaaWNamed
import Derived.Test.YtiaboojdplcaoaaSpecField
import Derived.Test.YtiaboojdplcaoaaApp
import Derived.Lib.SliceRun
namespace Go.Proofs.Ytiaboojdplcaoaa
open Go.RowKit Go.Larder
set_option linter.unusedVariables false
set_option linter.unusedSimpArgs false

theorem sl_field : SlT Try.prog 28 47 2 32 := SlT.mk' (z := .agg #[.string ByteArray.empty, .string ByteArray.empty]) Try.underlying28 (by kernel_rfl) rfl
theorem eq_nil_field : ∀ (w : World) (a : Option Addr) (n c n' c' : Nat), (binOp .eql 28 (.slice a n c) (.slice none n' c')).run Try.prog w = .ok (.bool a.isNone) w :=
  fun w a n c n' c' => Lib.run_eql_slice_nil w _ _ a n c n' c' Try.underlying28

/-- slices.IndexFunc at a name. -/
theorem w_fidx (nm : List UInt8) (l : List Fld) (hx : ∀ f ∈ l, f.1.length ≤ 140737488351232 ∧ f.2.length ≤ 140737488351232) (hl : l.length ≤ 140737488351232) (A : Option Addr) (c : Nat) (v : Value) (w : World) (hr : ReadL encF w w.heap.size A l) (hv : NamedAt w w.heap.size nm v) :
    Calls Try.prog 117 #[.slice A l.length c, v] w (fun e w' => e = .returned (.int .i64 (ixFrom nm 0 l)) ∧ Below w.heap.size w w') := by
  obtain ⟨b, rfl, hbl, hcell⟩ := hv
  go_enter Try.func117, Try.ntmps117
  go_wp2_with fail
  go_loopw [8] (fun i' wr => ∃ k : Nat, i' = .int .i64 k ∧ k ≤ l.length ∧ ixFrom nm k (l.drop k) = ixFrom nm 0 l ∧ Below w.heap.size w wr) (fun i' _ => l.length - (intOf i').toNat)
  case atStart => exact ⟨0, rfl, by omega, rfl, Below.refl _ _⟩
  case round =>
    obtain ⟨k, rfl, hk, heq, hbel⟩ := hrel
    have hbs := hbel.size
    by_cases hlt : k < l.length
    · obtain ⟨⟨n, y⟩, hfx, hs⟩ := drop_step hlt
      have hxl := (hx _ (List.mem_of_getElem? hfx)).1
      obtain ⟨g, off, rfl, hgb, hc0, hc1⟩ := (hr.below hbel (Nat.le_refl _)).at_F hfx
      have hcell2 : wr.cell? ⟨b, 0, none⟩ = some (S nm) := (hbel.cell (p := ⟨b, 0, none⟩) hbl).trans hcell
      rw [hs, ixFrom] at heq
      have hh : hits nm (n, y) = (lowL n == nm) := rfl
      rw [hh] at heq
      cases hw : (lowL n == nm)
      · rw [hw, if_neg (by simp)] at heq
        have Heq := Lib.hid heq; clear heq hs hfx hh
        go_wp2_with (go_at_call 90; refine (w_named1 n y nm hxl b _ (by omega) hcell2).mono ?_; rintro e w2 ⟨rfl, hb2⟩)
        go_roundw
        case rel => exact ⟨k + 1, by go_num, by omega, Heq.out, hbel.trans (hb2.mono hbs)⟩
        case measure => simp [intOf]; omega
      · rw [hw, if_pos rfl] at heq
        have Heq := Lib.hid heq; clear heq hs hfx hh
        go_wp2_with (go_at_call 90; refine (w_named1 n y nm hxl b _ (by omega) hcell2).mono ?_; rintro e w2 ⟨rfl, hb2⟩)
        go_ret
        exact ⟨by rw [← Heq.out]; rfl, hbel.trans (hb2.mono hbs)⟩
    · rw [drop_end hlt, ixFrom] at heq
      have Heq := Lib.hid heq; clear heq
      go_wp2_with fail
      go_ret
      exact ⟨by rw [← Heq.out]; rfl, hbel⟩

theorem w_fclone (l : List Fld) (hl : l.length * 32 ≤ 140737488351232) (A : Option Addr) (c : Nat) (w : World) (hr : ReadL encF w w.heap.size A l) :
    Calls Try.prog 103 #[.slice A l.length c] w (fun e w' => (∃ A2 c2, e = .returned (.slice A2 l.length c2) ∧ OwnL encF w' w.heap.size 47 A2 c2 l) ∧ Below w.heap.size w w') := by
  have hq := eq_nil_field
  go_enter Try.func103, Try.ntmps103
  cases A with
  | none =>
    have h0 : l = [] := by
      cases l with
      | nil => rfl
      | cons f l => obtain ⟨_, _, h, _⟩ := hr (by simp); cases h
    subst h0
    go_wp2_with fail
    go_ret
    exact ⟨⟨none, 0, rfl, OwnL.nil _ _ _⟩, Below.refl _ _⟩
  | some ad =>
    have ho : OwnL encF (w.alloc (.cells #[] 47)) w.heap.size 47 (some ⟨w.heap.size, 0, none⟩) 0 ([] : List Fld) := own_lit w w.heap.size 47 #[] [] rfl (Nat.le_refl _) (by simp [maxLen])
    have hr2 := hr.alloc (Nat.le_refl _) (.cells #[] 47)
    go_wp2_with (at_builtin
                 refine wpList_app_sl encF sl_field l rfl _ _ rfl rfl ho rfl hr2 (by simp; omega) (by simp [maxLen]; omega) (by simp) ?_
                 intro A2 c2 w3 hown3 hb3)
    go_ret
    exact ⟨⟨A2, c2, by simp, by simpa using hown3⟩, ((Below.refl _ _).alloc (Nat.le_refl _) _).trans hb3⟩
end Go.Proofs.Ytiaboojdplcaoaa
