/- Walks: Drop; the reference's Has, Without. -/
import Derived.Test.YtlonddgokafgkaaWFldD
import Derived.Test.YtlonddgokafgkaaWLowR
namespace Go.Proofs.Ytlonddgokafgkaa
open Go.RowKit Go.Larder
set_option linter.unusedVariables false
set_option linter.unusedSimpArgs false

theorem w_Drop (name : List UInt8) (hn : name.length ≤ 140737488351232) (l : List Fld) (hx : ∀ f ∈ l, f.1.length ≤ 140737488351232 ∧ f.2.length ≤ 140737488351232) (hl : l.length * 32 ≤ 140737488351232) (A : Option Addr) (c : Nat) (w : World) (hr : ReadL encF w w.heap.size A l) :
    Calls Try.prog 46 #[.slice A l.length c, S name] w (fun e w' => (∃ A2 c2, e = .returned (.slice A2 (dropL (lowL name) l).length c2) ∧ OwnL encF w' w.heap.size 66 A2 c2 (dropL (lowL name) l)) ∧ Below w.heap.size w w') := by
  go_enter Try.func46, Try.ntmps46
  go_wp2_with fail
  refine (w_fclone l hl A c _ hr).mono ?_
  rintro e w1 ⟨⟨A1, c1, rfl, ho1⟩, hb1⟩
  go_wp2_with fail
  refine (w_named name hn _).mono ?_
  rintro e w2 ⟨⟨b, rfl, hb0, hbl, hcell⟩, hb2⟩
  have ho2 := ho1.below hb2 (Nat.le_refl _)
  have hb12 := hb1.trans (hb2.mono hb1.size)
  go_wp2_with fail
  refine (w_fdelete (lowL name) l hx hl w.heap.size A1 c1 b _ hb12.size ho2 hbl hcell (fun g hg => by have := (ho1.lt g hg).2; omega)).mono ?_
  rintro e w3 ⟨⟨A3, c3, rfl, ho3⟩, hb3⟩
  go_wp2_with fail
  go_ret
  exact ⟨⟨A3, c3, rfl, ho3⟩, hb12.trans hb3⟩

theorem w_Has (x : List UInt8) (l : List (List UInt8)) (hl : l.length ≤ 140737488351232) (A : Option Addr) (c B : Nat) (w : World) (hr : ReadL encS w B A l) :
    Calls Try.prog 69 #[.slice A l.length c, S x] w (fun e w' => e = .returned (.bool (l.any fun y => x == y)) ∧ w = w') := by
  go_enter Try.func69, Try.ntmps69
  go_wp2_with fail
  go_loop [9] (fun i' => ∃ k : Nat, i' = .int .i64 k ∧ k ≤ l.length ∧ ((l.drop k).any fun y => x == y) = (l.any fun y => x == y)) (fun i' => l.length - (intOf i').toNat)
  case atStart => exact ⟨0, rfl, by omega, rfl⟩
  case round =>
    obtain ⟨k, rfl, hk, heq⟩ := hrel
    by_cases hlt : k < l.length
    · obtain ⟨y, hy, hs⟩ := drop_step hlt
      obtain ⟨g, off, rfl, hgb, hc0⟩ := hr.at_S hy
      rw [hs, List.any_cons] at heq
      clear hs hy
      cases hw : (x == y)
      · rw [hw] at heq
        have Heq := Lib.hid heq; clear heq
        go_wp2_with fail
        go_round
        case rel => exact ⟨k + 1, by go_num, by omega, by rw [← Heq.out]; simp⟩
        case measure => simp [intOf]; omega
      · rw [hw] at heq
        have Heq := Lib.hid heq; clear heq
        go_wp2_with fail
        go_ret
        exact ⟨by rw [← Heq.out]; rfl, rfl⟩
    · rw [drop_end hlt] at heq
      have Heq := Lib.hid heq; clear heq
      go_wp2_with fail
      go_ret
      exact ⟨by rw [← Heq.out]; rfl, rfl⟩

set_option maxHeartbeats 2000000 in
theorem w_Without1 (nm : List UInt8) (l : List Fld) (hx : ∀ f ∈ l, f.1.length ≤ 140737488351232 ∧ f.2.length ≤ 140737488351232) (hl : l.length * 32 ≤ 140737488351232) (A A' : Option Addr) (c c' : Nat) (w : World) (hr : ReadL encF w w.heap.size A l) (hr' : ReadL encS w w.heap.size A' [nm]) :
    Calls Try.prog 47 #[.slice A l.length c, .slice A' 1 c'] w (fun e w' => (∃ A2 c2, e = .returned (.slice A2 (dropL nm l).length c2) ∧ OwnL encF w' w.heap.size 66 A2 c2 (dropL nm l)) ∧ Below w.heap.size w w') := by
  go_enter Try.func47, Try.ntmps47
  go_wp2_with fail
  go_loopw [5, 10] (fun o i' wr => ∃ (k : Nat) (acc : List Fld) (A2 : Option Addr) (c2 : Nat), i' = .int .i64 k ∧ o = .slice A2 acc.length c2 ∧ k ≤ l.length ∧ acc.length ≤ k ∧ OwnL encF wr w.heap.size 66 A2 c2 acc ∧ Below w.heap.size w wr ∧
      acc ++ dropL nm (l.drop k) = dropL nm l) (fun _ i' _ => l.length - (intOf i').toNat)
  case atStart => exact ⟨0, [], none, 0, rfl, rfl, by omega, by simp, OwnL.nil _ _ _, Below.refl _ _, by simp⟩
  case round =>
    obtain ⟨k, acc, A2, c2, rfl, rfl, hk, hacc, hown, hbel, heq⟩ := hrel
    have hbs := hbel.size
    by_cases hlt : k < l.length
    · obtain ⟨⟨n, y⟩, hfx, hs⟩ := drop_step hlt
      have hxl := (hx _ (List.mem_of_getElem? hfx)).1
      obtain ⟨g, off, rfl, hgb, hc0, hc1⟩ := (hr.below hbel (Nat.le_refl _)).at_F hfx
      have hrn : ReadL encS (wr.alloc (.cells #[S n, S y] 66)) wr.heap.size A' [nm] := ((hr'.below hbel (Nat.le_refl _)).more hbs).alloc (Nat.le_refl _) _
      have hhas : ([nm].any fun z => lowL n == z) = (lowL n == nm) := by simp
      rw [hs, dropL, List.filter_cons] at heq
      have hh : hits nm (n, y) = (lowL n == nm) := rfl
      rw [hh] at heq
      clear hs hfx hh
      cases hw : (lowL n == nm)
      · rw [hw, if_pos (by simp)] at heq
        rw [hw] at hhas
        have Heq := Lib.hid heq; clear heq
        go_wp2_with (first
          | (go_at_call 48; refine (w_LowerR n hxl _).mono ?_; rintro e w' ⟨rfl, rfl⟩)
          | (go_at_call 69; refine (w_Has (lowL n) [nm] (by simp) A' c' _ _ hrn).mono ?_; rintro e w' ⟨rfl, rfl⟩)
          | (at_builtin
             refine wpList_app encF sl_field [(n, y)] rfl _ _ rfl rfl (hown.alloc _) #[S n, S y] rfl 0 rfl (by first | rfl | (simp [go_sem]; done)) (by omega) (by simp only [maxLen]; omega) (by simp; omega) ?_
             intro g' c'' w3 hown3 hg3 hb3 hbg))
        go_roundw
        case rel => exact ⟨k + 1, acc ++ [(n, y)], _, c'', by go_num, by simp, by omega, by simp; omega, hown3, (hbel.alloc hbs _).trans hb3, by rw [← Heq.out]; simp [dropL]⟩
        case measure => simp [intOf]; omega
      · rw [hw, if_neg (by simp)] at heq
        rw [hw] at hhas
        have Heq := Lib.hid heq; clear heq
        go_wp2_with (first
          | (go_at_call 48; refine (w_LowerR n hxl _).mono ?_; rintro e w' ⟨rfl, rfl⟩)
          | (go_at_call 69; refine (w_Has (lowL n) [nm] (by simp) A' c' _ _ hrn).mono ?_; rintro e w' ⟨rfl, rfl⟩))
        go_roundw
        case rel => exact ⟨k + 1, acc, _, c2, by go_num, rfl, by omega, by omega, hown.alloc _, hbel.alloc hbs _, Heq.out⟩
        case measure => simp [intOf]; omega
    · rw [drop_end hlt] at heq
      have hacc2 : dropL nm l = acc := by rw [← heq]; simp [dropL]
      clear heq
      go_wp2_with fail
      go_ret
      exact ⟨⟨A2, c2, by rw [hacc2]; rfl, by rw [hacc2]; exact hown⟩, hbel⟩
end Go.Proofs.Ytlonddgokafgkaa
