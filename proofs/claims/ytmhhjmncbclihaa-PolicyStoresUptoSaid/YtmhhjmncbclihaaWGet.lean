/- Walks: the values of a name, joined: the program's Get, the reference's. -/
import Derived.Test.YtmhhjmncbclihaaWNamed
import Derived.Test.YtmhhjmncbclihaaWLowR
import Derived.Test.YtmhhjmncbclihaaSpecs
import Derived.Test.YtmhhjmncbclihaaWJoin
import Derived.Test.YtmhhjmncbclihaaApp
namespace Go.Proofs.Ytmhhjmncbclihaa
open Go.RowKit Go.Larder
set_option linter.unusedVariables false
set_option linter.unusedSimpArgs false

theorem sl_strG : SlT Try.prog 22 9 1 16 := SlT.mk' (z := .string ByteArray.empty) Try.underlying22 (by kernel_rfl) rfl
theorem valsL_snoc {nm : List UInt8} {l : List Fld} {k : Nat} {f : Fld} (h : l[k]? = some f) : valsL nm (l.take (k + 1)) = valsL nm (l.take k) ++ (if hits nm f then [f.2] else []) := by
  rw [List.take_add_one, h]
  unfold valsL
  rw [List.filter_append, List.map_append]
  cases hh : hits nm f <;> simp [hh]
theorem valsL_len (nm : List UInt8) (l : List Fld) : (valsL nm l).length ≤ l.length := by
  unfold valsL
  rw [List.length_map]
  exact List.length_filter_le _ _

set_option maxHeartbeats 2000000 in
theorem w_Get (name : List UInt8) (hn : name.length ≤ 1048576) (l : List Fld) (hx : ∀ f ∈ l, f.1.length ≤ 1048576) (hl : l.length ≤ 1048576) (hj : (Lib.join (valsL (lowL name) l) sepL).length ≤ 140737488355328) (A : Option Addr) (c : Nat) (w : World) (hr : ReadL encF w w.heap.size A l) :
    Calls Try.prog 76 #[.slice A l.length c, S name] w (fun e w' => e = .returned (.tuple #[S (Lib.join (valsL (lowL name) l) sepL), .bool (!(valsL (lowL name) l).isEmpty)]) ∧ Below w.heap.size w w') := by
  have hjl := valsL_len (lowL name) l
  go_enter Try.func76, Try.ntmps76
  go_wp2_with fail
  refine (w_named name (by omega) _).mono ?_
  rintro e w1 ⟨⟨b, rfl, hb0, hbl, hcell⟩, hb1⟩
  have hs1 := hb1.size
  have hr1 := (hr.below hb1 (Nat.le_refl _)).more hs1
  go_wp2_with fail
  go_loopw [6, 14] (fun o i' wr => ∃ (k : Nat) (A2 : Option Addr) (c2 : Nat), i' = .int .i64 k ∧ o = .slice A2 (valsL (lowL name) (l.take k)).length c2 ∧ k ≤ l.length ∧ OwnL encL wr w1.heap.size 9 A2 c2 (valsL (lowL name) (l.take k)) ∧ Below w1.heap.size w1 wr ∧ Below w.heap.size w wr) (fun _ i' _ => l.length - (intOf i').toNat)
  case atStart => exact ⟨0, none, 0, rfl, rfl, by omega, OwnL.nil _ _ _, Below.refl _ _, hb1⟩
  case round =>
    obtain ⟨k, A2, c2, rfl, rfl, hk, hown, hbel1, hbel⟩ := hrel
    have hbs := hbel.size
    have hbs1 := hbel1.size
    by_cases hlt : k < l.length
    · obtain ⟨⟨n, y⟩, hfx, _⟩ := drop_step hlt
      have hxl := hx _ (List.mem_of_getElem? hfx)
      obtain ⟨g, off, rfl, hgb, hc0, hc1⟩ := (hr.below hbel (Nat.le_refl _)).at_F hfx
      have hcell2 : wr.cell? ⟨b, 0, none⟩ = some (S (lowL name)) := (hbel1.cell (p := ⟨b, 0, none⟩) hbl).trans hcell
      have hsn := valsL_snoc (nm := lowL name) hfx
      have hvl := valsL_len (lowL name) (l.take k)
      have htl : (l.take k).length = k := by rw [List.length_take]; omega
      have hh : hits (lowL name) (n, y) = (lowL n == lowL name) := rfl
      rw [hh] at hsn
      have hcellA : (wr.alloc (.cells #[S n, S y] 152)).cell? ⟨b, 0, none⟩ = some (S (lowL name)) := (World.cell?_alloc_lt _ _ _ (by show b < wr.heap.size; omega)).trans hcell2
      have hA1 : (wr.alloc (.cells #[S n, S y] 152)).heap.size = wr.heap.size + 1 := by simp
      cases hw : (lowL n == lowL name)
      · rw [hw, if_neg (by simp), List.append_nil] at hsn
        have Hsn := Lib.hid hsn; clear hsn hfx hh
        go_wp2_with (go_at_call 126; refine (w_named1 n y (lowL name) (by omega) b _ (by simp; omega) hcellA).mono ?_; rintro e w2 ⟨rfl, hb2⟩)
        go_roundw
        case rel =>
          have hbA := (hbel.alloc hbs (.cells #[S n, S y] 152)).trans (hb2.mono (by simp; omega))
          have hbA1 := (hbel1.alloc hbs1 (.cells #[S n, S y] 152)).trans (hb2.mono (by simp; omega))
          exact ⟨k + 1, A2, c2, by go_num, by rw [Hsn.out], by omega, by rw [Hsn.out]; exact (hown.alloc _).below hb2 (Nat.le_refl _), hbA1, hbA⟩
        case measure => simp [intOf]; omega
      · rw [hw, if_pos rfl] at hsn
        have Hsn := Lib.hid hsn; clear hsn hfx hh
        go_wp2_with (first
          | (go_at_call 126; refine (w_named1 n y (lowL name) (by omega) b _ (by simp; omega) hcellA).mono ?_; rintro e w2 ⟨rfl, hb2⟩
             have hown2 := (hown.alloc (.cells #[S n, S y] 152)).below hb2 (Nat.le_refl _)
             have hs2 := hb2.size
             rw [hA1] at hs2
             have hcB : w2.cell? ⟨wr.heap.size, 1, none⟩ = some (S y) := (hb2.cell (p := ⟨wr.heap.size, 1, none⟩) (by simp)).trans (by rw [cell_of_row _ _ _ _ _ (0, 0) (heap_alloc_new wr _)]; rfl))
          | (at_builtin; refine wpList_app encL sl_strG [y] rfl _ _ rfl rfl hown2 #[S y] rfl 0 rfl (by first | rfl | (simp [go_sem]; done)) (by omega) (by simp only [maxLen]; omega) (by omega) ?_; intro g' c'' w3 hown3 hg3 hb3 hbg))
        go_roundw
        case rel =>
          have hbA := (hbel.alloc hbs (.cells #[S n, S y] 152)).trans (hb2.mono (by simp; omega))
          have hbA1 := (hbel1.alloc hbs1 (.cells #[S n, S y] 152)).trans (hb2.mono (by simp; omega))
          exact ⟨k + 1, some ⟨g', 0, none⟩, c'', by go_num, by rw [Hsn.out]; simp, by omega, by rw [Hsn.out]; exact hown3, hbA1.trans hb3, hbA.trans (hb3.mono hs1)⟩
        case measure => simp [intOf]; omega
    · obtain rfl : k = l.length := by omega
      rw [List.take_length] at hown ⊢
      have hrd := hown.read
      have hcap := hown.le_cap
      go_wp2_with (go_at_call 103; refine (w_Join (valsL (lowL name) l) sepL A2 c2 _ _ hrd (Nat.le_refl _) hcap (by omega) hj).mono ?_; rintro e w2 ⟨rfl, hb2⟩)
      go_ret2
      refine ⟨?_, hbel.trans (hb2.mono hbs)⟩
      show Ending.returned (.tuple #[S (Lib.join (valsL (lowL name) l) sepL), .bool (decide (0 < (valsL (lowL name) l).length))]) = _
      congr 4
      cases valsL (lowL name) l <;> simp

set_option maxHeartbeats 2000000 in
theorem w_GetR (name : List UInt8) (hn : name.length ≤ 1048576) (l : List Fld) (hx : ∀ f ∈ l, f.1.length ≤ 1048576) (hl : l.length ≤ 1048576) (hj : (l.map (fun f => f.1.length + f.2.length + 3)).sum ≤ 1048576) (A : Option Addr) (c : Nat) (w : World) (hr : ReadL encF w w.heap.size A l) :
    Calls Try.prog 81 #[.slice A l.length c, S name] w (fun e w' => e = .returned (.tuple #[S (getGo (lowL name) l [] false).1, .bool (getGo (lowL name) l [] false).2]) ∧ Below w.heap.size w w') := by
  go_enter Try.func81, Try.ntmps81
  go_wp2_with fail
  go_loopw [6, 7, 12] (fun o s' i' wr => ∃ (k : Nat) (out : List UInt8) (is : Bool), i' = .int .i64 k ∧ o = S out ∧ s' = .bool is ∧ k ≤ l.length ∧ out.length + ((l.drop k).map (fun f => f.1.length + f.2.length + 3)).sum ≤ 1048576 ∧ getGo (lowL name) (l.drop k) out is = getGo (lowL name) l [] false ∧ Below w.heap.size w wr) (fun _ _ i' _ => l.length - (intOf i').toNat)
  case atStart => exact ⟨0, [], false, rfl, rfl, rfl, by omega, by simpa using hj, rfl, Below.refl _ _⟩
  case round =>
    obtain ⟨k, out, is, rfl, rfl, rfl, hk, hsum, heq, hbel⟩ := hrel
    have hbs := hbel.size
    by_cases hlt : k < l.length
    · obtain ⟨⟨n, y⟩, hfx, hs⟩ := drop_step hlt
      have hxl := hx _ (List.mem_of_getElem? hfx)
      obtain ⟨g, off, rfl, hgb, hc0, hc1⟩ := (hr.below hbel (Nat.le_refl _)).at_F hfx
      rw [hs, List.map_cons, List.sum_cons] at hsum
      have hsum : out.length + (n.length + y.length + 3 + ((l.drop (k + 1)).map (fun f => f.1.length + f.2.length + 3)).sum) ≤ 1048576 := hsum
      rw [hs, getGo] at heq
      have hh : hits (lowL name) (n, y) = (lowL n == lowL name) := rfl
      rw [hh] at heq
      clear hs hfx hh
      cases hw : (lowL n == lowL name)
      · rw [hw, if_neg (by simp)] at heq
        have Heq := Lib.hid heq; clear heq
        go_wp2_with (go_at_call 84; refine (w_LowerR _ (by first | exact Nat.le_trans hxl (by decide) | exact Nat.le_trans hn (by decide)) _).mono ?_; rintro e w' ⟨rfl, rfl⟩)
        go_roundw
        case rel => exact ⟨k + 1, out, is, by go_num, rfl, rfl, by omega, by omega, Heq.out, hbel.alloc hbs _⟩
        case measure => simp [intOf]; omega
      · rw [hw, if_pos rfl] at heq
        have Heq := Lib.hid heq; clear heq
        cases is
        · go_wp2_with (go_at_call 84; refine (w_LowerR _ (by first | exact Nat.le_trans hxl (by decide) | exact Nat.le_trans hn (by decide)) _).mono ?_; rintro e w' ⟨rfl, rfl⟩)
          go_roundw
          case rel => exact ⟨k + 1, out ++ y, true, by go_num, rfl, rfl, by omega, by rw [List.length_append]; omega, Heq.out, hbel.alloc hbs _⟩
          case measure => simp [intOf]; omega
        · go_wp2_with (go_at_call 84; refine (w_LowerR _ (by first | exact Nat.le_trans hxl (by decide) | exact Nat.le_trans hn (by decide)) _).mono ?_; rintro e w' ⟨rfl, rfl⟩)
          go_roundw
          case rel => exact ⟨k + 1, out ++ sepL ++ y, true, by go_num, by simp [sepL], rfl, by omega, by rw [List.length_append, List.length_append, show sepL.length = 2 from rfl]; omega, Heq.out, hbel.alloc hbs _⟩
          case measure => simp [intOf]; omega
    · rw [drop_end hlt, getGo] at heq
      have Heq := Lib.hid heq; clear heq
      go_wp2_with fail
      go_ret2
      rw [← Heq.out]
      exact ⟨rfl, hbel⟩
end Go.Proofs.Ytmhhjmncbclihaa
