/- Walk: the reference's Set. -/
import Derived.Test.YtlonddgokafgkaaWFldR
namespace Go.Proofs.Ytlonddgokafgkaa
open Go.RowKit Go.Larder
set_option linter.unusedVariables false
set_option linter.unusedSimpArgs false

set_option maxHeartbeats 1000000 in
set_option maxRecDepth 100000 in
theorem w_SetR (name value : List UInt8) (hn : name.length ≤ 140737488351232) (l : List Fld) (hx : ∀ f ∈ l, f.1.length ≤ 140737488351232 ∧ f.2.length ≤ 140737488351232) (hl : l.length * 32 ≤ 140737488351232) (A : Option Addr) (c : Nat) (w : World) (hr : ReadL encF w w.heap.size A l) :
    Calls Try.prog 45 #[.slice A l.length c, S name, S value] w (fun e w' => (∃ A2 c2, e = .returned (.slice A2 (setR name value l).length c2) ∧ OwnL encF w' w.heap.size 66 A2 c2 (setR name value l)) ∧ Below w.heap.size w w') := by
  go_enter Try.func45, Try.ntmps45
  go_wp2_with fail
  go_loopw [7, 8, 13] (fun o s' i' wr => ∃ (k : Nat) (is : Bool) (acc : List Fld) (A2 : Option Addr) (c2 : Nat), i' = .int .i64 k ∧ s' = .bool is ∧ o = .slice A2 acc.length c2 ∧ k ≤ l.length ∧ acc.length ≤ k ∧ OwnL encF wr w.heap.size 66 A2 c2 acc ∧ Below w.heap.size w wr ∧
      setGo (lowL name) name value (l.drop k) acc is = setR name value l) (fun _ _ i' _ => l.length - (intOf i').toNat)
  case atStart => exact ⟨0, false, [], none, 0, rfl, rfl, rfl, by omega, by simp, OwnL.nil _ _ _, Below.refl _ _, rfl⟩
  case round =>
    obtain ⟨k, is, acc, A2, c2, rfl, rfl, rfl, hk, hacc, hown, hbel, heq⟩ := hrel
    have hbs := hbel.size
    by_cases hlt : k < l.length
    · obtain ⟨⟨n, y⟩, hfx, hs⟩ := drop_step hlt
      have hxl := (hx _ (List.mem_of_getElem? hfx)).1
      obtain ⟨g, off, rfl, hgb, hc0, hc1⟩ := (hr.below hbel (Nat.le_refl _)).at_F hfx
      rw [hs, setGo] at heq
      have hh : hits (lowL name) (n, y) = (lowL n == lowL name) := rfl
      rw [hh] at heq
      clear hs hfx hh
      cases hw : (lowL n == lowL name)
      · rw [hw, if_neg (by simp)] at heq
        have Heq := Lib.hid heq; clear heq
        go_wp2_with (first
          | (go_at_call 48; refine (w_LowerR _ (by first | exact hxl | exact hn) _).mono ?_; rintro e w' ⟨rfl, rfl⟩)
          | (at_builtin; refine wpList_app encF sl_field [(n, y)] rfl _ _ rfl rfl (hown.alloc _) #[S n, S y] rfl 0 rfl (by first | rfl | (simp [go_sem]; done)) (by omega) (by simp only [maxLen]; omega) (by simp; omega) ?_; intro g' c'' w3 hown3 hg3 hb3 hbg))
        go_roundw
        case rel => exact ⟨k + 1, is, acc ++ [(n, y)], _, c'', by go_num, rfl, by simp, by omega, by simp; omega, hown3, (hbel.alloc hbs _).trans hb3, Heq.out⟩
        case measure => simp [intOf]; omega
      · rw [hw, if_pos rfl] at heq
        cases is
        · rw [if_neg (by simp)] at heq
          have Heq := Lib.hid heq; clear heq
          go_wp2_with (first
            | (go_at_call 48; refine (w_LowerR _ (by first | exact hxl | exact hn) _).mono ?_; rintro e w' ⟨rfl, rfl⟩)
            | (at_builtin; refine wpList_app encF sl_field [(name, value)] rfl _ _ rfl rfl (hown.alloc _) #[S name, S value] rfl 0 rfl (by first | rfl | (simp [go_sem]; done)) (by omega) (by simp only [maxLen]; omega) (by simp; omega) ?_; intro g' c'' w3 hown3 hg3 hb3 hbg))
          go_roundw
          case rel => exact ⟨k + 1, true, acc ++ [(name, value)], _, c'', by go_num, rfl, by simp, by omega, by simp; omega, hown3, (hbel.alloc hbs _).trans hb3, Heq.out⟩
          case measure => simp [intOf]; omega
        · rw [if_pos rfl] at heq
          have Heq := Lib.hid heq; clear heq
          go_wp2_with (go_at_call 48; refine (w_LowerR _ (by first | exact hxl | exact hn) _).mono ?_; rintro e w' ⟨rfl, rfl⟩)
          go_roundw
          case rel => exact ⟨k + 1, true, acc, _, c2, by go_num, rfl, rfl, by omega, by omega, hown.alloc _, hbel.alloc hbs _, Heq.out⟩
          case measure => simp [intOf]; omega
    · rw [drop_end hlt, setGo] at heq
      cases is
      · rw [if_neg (by simp)] at heq
        have Heq := Lib.hid heq; clear heq
        go_wp2_with (at_builtin; refine wpList_app encF sl_field [(name, value)] rfl _ _ rfl rfl hown #[S name, S value] rfl 0 rfl (by first | rfl | (simp [go_sem]; done)) (by omega) (by simp only [maxLen]; omega) hbs ?_; intro g' c'' w3 hown3 hg3 hb3 hbg)
        go_ret
        exact ⟨⟨some ⟨g', 0, none⟩, c'', by rw [← Heq.out]; simp, by rw [← Heq.out]; exact hown3⟩, hbel.trans hb3⟩
      · rw [if_pos rfl] at heq
        have Heq := Lib.hid heq; clear heq
        go_wp2_with fail
        go_ret
        exact ⟨⟨_, c2, by rw [← Heq.out]; rfl, by rw [← Heq.out]; exact hown⟩, hbel⟩
end Go.Proofs.Ytlonddgokafgkaa
