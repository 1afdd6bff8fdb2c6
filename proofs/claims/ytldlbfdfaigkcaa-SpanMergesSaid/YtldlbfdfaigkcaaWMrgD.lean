/- Walks: slices.Clone, IndexFunc, DeleteFunc at ranges: those that are empty go. -/
import Derived.Test.YtldlbfdfaigkcaaWMrgR
import Derived.Lib.SliceRun
namespace Go.Larder
open Go.RowKit
set_option linter.unusedVariables false
set_option linter.unusedSimpArgs false
def mHit (s : Iv) : Bool := decide (s.2 ≤ s.1)
/-- The place of the first of that name (-1: none), counted from k on. -/
def mIx : Nat → List Iv → Int
  | _, [] => -1
  | k, f :: l => if mHit f then (k : Int) else mIx (k + 1) l
theorem mIx_ge : ∀ (l : List Iv) (k : Nat), mIx k l = -1 ∨ ∃ m : Nat, mIx k l = m ∧ k ≤ m ∧ m < k + l.length ∧ (l.take (m - k)).all (fun f => !mHit f) = true ∧ (∃ f, l[m - k]? = some f ∧ mHit f = true)
  | [], k => .inl rfl
  | f :: l, k => by
    unfold mIx
    by_cases h : mHit f = true
    · rw [if_pos h]
      exact .inr ⟨k, rfl, by omega, by simp, by simp, f, by simp, h⟩
    · rw [if_neg h]
      rcases mIx_ge l (k + 1) with h1 | ⟨m, h1, h2, h3, h4, g, h5, h6⟩
      · exact .inl h1
      · refine .inr ⟨m, h1, by omega, by simp; omega, ?_, g, ?_, h6⟩
        · rw [show m - k = (m - (k + 1)) + 1 from by omega, List.take_succ_cons, List.all_cons, h4]
          simpa using h
        · rw [show m - k = (m - (k + 1)) + 1 from by omega, List.getElem?_cons_succ]
          exact h5
theorem mIx_none : ∀ {l : List Iv} {k : Nat}, mIx k l = -1 → l.all (fun f => !mHit f) = true
  | [], _, _ => rfl
  | f :: l, k, h => by
    unfold mIx at h
    by_cases h1 : mHit f = true
    · rw [if_pos h1] at h; omega
    · rw [if_neg h1] at h
      rw [List.all_cons, mIx_none h]
      simpa using h1

def mDrop (l : List Iv) : List Iv := l.filter fun f => !mHit f
theorem mDrop_all {l : List Iv} (h : l.all (fun f => !mHit f) = true) : mDrop l = l := by
  unfold mDrop
  exact List.filter_eq_self.2 (by simpa using h)


theorem flat_II : ∀ (l : List Iv) (j : Nat) (x : Iv), (l.set j x).flatMap encII.enc = ((l.flatMap encII.enc).set (j * 2) (.int .i64 x.1)).set (j * 2 + 1) (.int .i64 x.2)
  | [], j, x => by simp
  | y :: l, 0, x => by simp [encII]
  | y :: l, j + 1, x => by
    have := flat_II l j x
    rw [List.set_cons_succ, List.flatMap_cons, this, List.flatMap_cons]
    have he : encII.enc y = [.int .i64 y.1, .int .i64 y.2] := rfl
    rw [he, show (j + 1) * 2 = j * 2 + 1 + 1 from by omega]
    simp
theorem OwnL.set_II {w : World} {base : Nat} {e : TypeId} {g c : Nat} {l : List Iv} (h : OwnL encII w base e (some ⟨g, 0, none⟩) c l) (j : Nat) (x : Iv) :
    OwnL encII ((w.setCell ⟨g, j * 2, none⟩ (.int .i64 x.1)).setCell ⟨g, j * 2 + 1, none⟩ (.int .i64 x.2)) base e (some ⟨g, 0, none⟩) c (l.set j x) := by
  have h1 := (World.ownsRow.stored (World.ownsRow.stored h (j * 2) (.int .i64 x.1)).1 (j * 2 + 1) (.int .i64 x.2)).1
  unfold OwnL
  rw [flat_II, List.length_set]
  exact h1
theorem OwnL.get_II {w : World} {base : Nat} {e : TypeId} {g c j : Nat} {l : List Iv} {x : Iv} (h : OwnL encII w base e (some ⟨g, 0, none⟩) c l) (hx : l[j]? = some x) :
    w.cell? ⟨g, j * 2, none⟩ = some (.int .i64 x.1) ∧ w.cell? ⟨g, j * 2 + 1, none⟩ = some (.int .i64 x.2) := by
  obtain ⟨g', off', hA', _, hc0, hc1⟩ := h.read.at_II hx
  injection hA' with hA'
  injection hA' with e1 e2
  subst e1 e2
  rw [Nat.zero_add] at hc0 hc1
  exact ⟨hc0, hc1⟩
theorem box_kept {w w1 : World} {cs : Array Value} {e : TypeId} (hb : Below (w.alloc (.cells cs e)).heap.size (w.alloc (.cells cs e)) w1) :
    w1.heap[w.heap.size]? = some (.cells cs e (0, 0)) := (hb.block _ (by simp)).trans (by show (w.heap.push _)[w.heap.size]? = _; simp)
end Go.Larder
namespace Go.Proofs.Ytldlbfdfaigkcaa
open Go.RowKit Go.Larder
set_option linter.unusedVariables false
set_option linter.unusedSimpArgs false
theorem eq_nil_iv : ∀ (w : World) (a : Option Addr) (n c n' c' : Nat), (binOp .eql 49 (.slice a n c) (.slice none n' c')).run Try.prog w = .ok (.bool a.isNone) w :=
  fun w a n c n' c' => Lib.run_eql_slice_nil w _ _ a n c n' c' Try.underlying49
theorem zero_iv : ∀ w, (zeroValue 52).run Try.prog w = .ok (.agg #[.int .i64 0, .int .i64 0]) w := Try.zeroValue52
theorem w_m1 (n y : Int) (w : World) : Calls Try.prog 32 #[.agg #[.int .i64 n, .int .i64 y]] w fun e w' => e = .returned (.bool (decide (y ≤ n))) ∧ Below w.heap.size w w' := by
  go_enter Try.func32, Try.ntmps32
  go_wp2_with fail
  go_ret
  exact ⟨by simp, (Below.refl _ _).alloc (Nat.le_refl _) _⟩
/-- slices.IndexFunc at a name. -/
theorem w_midx (l : List Iv) (hl : l.length ≤ 140737488351232) (A : Option Addr) (c : Nat) (w : World) (hr : ReadL encII w w.heap.size A l) :
    Calls Try.prog 37 #[.slice A l.length c, .func (.func 32) #[] #[]] w (fun e w' => e = .returned (.int .i64 (mIx 0 l)) ∧ Below w.heap.size w w') := by
  go_enter Try.func37, Try.ntmps37
  go_wp2_with fail
  go_loopw [8] (fun i' wr => ∃ k : Nat, i' = .int .i64 k ∧ k ≤ l.length ∧ mIx k (l.drop k) = mIx 0 l ∧ Below w.heap.size w wr) (fun i' _ => l.length - (intOf i').toNat)
  case atStart => exact ⟨0, rfl, by omega, rfl, Below.refl _ _⟩
  case round =>
    obtain ⟨k, rfl, hk, heq, hbel⟩ := hrel
    have hbs := hbel.size
    by_cases hlt : k < l.length
    · obtain ⟨⟨n, y⟩, hfx, hs⟩ := drop_step hlt
      obtain ⟨g, off, rfl, hgb, hc0, hc1⟩ := (hr.below hbel (Nat.le_refl _)).at_II hfx
      rw [hs, mIx] at heq
      have hh : mHit (n, y) = (decide (y ≤ n)) := rfl
      rw [hh] at heq
      have hm1 := fun w => w_m1 n y w
      cases hw : (decide (y ≤ n))
      · rw [hw] at hm1
        rw [hw, if_neg (by simp)] at heq
        have Heq := Lib.hid heq; clear heq hs hfx hh hw
        go_wp2_with (go_at_call 32; refine (hm1 _).mono ?_; rintro e w2 ⟨rfl, hb2⟩)
        go_roundw
        case rel => exact ⟨k + 1, by go_num, by omega, Heq.out, hbel.trans (hb2.mono hbs)⟩
        case measure => simp [intOf]; omega
      · rw [hw] at hm1
        rw [hw, if_pos rfl] at heq
        have Heq := Lib.hid heq; clear heq hs hfx hh hw
        go_wp2_with (go_at_call 32; refine (hm1 _).mono ?_; rintro e w2 ⟨rfl, hb2⟩)
        go_ret
        exact ⟨by rw [← Heq.out]; rfl, hbel.trans (hb2.mono hbs)⟩
    · rw [drop_end hlt, mIx] at heq
      have Heq := Lib.hid heq; clear heq
      go_wp2_with fail
      go_ret
      exact ⟨by rw [← Heq.out]; rfl, hbel⟩

theorem w_mclone (l : List Iv) (hl : l.length * 16 ≤ 140737488351232) (A : Option Addr) (c : Nat) (w : World) (hr : ReadL encII w w.heap.size A l) :
    Calls Try.prog 31 #[.slice A l.length c] w (fun e w' => (∃ A2 c2, e = .returned (.slice A2 l.length c2) ∧ OwnL encII w' w.heap.size 52 A2 c2 l) ∧ Below w.heap.size w w') := by
  have hq := eq_nil_iv
  go_enter Try.func31, Try.ntmps31
  cases A with
  | none =>
    have h0 : l = [] := by
      cases l with
      | nil => rfl
      | cons f l => obtain ⟨_, _, h, _⟩ := hr (by simp); cases h
    subst h0
    go_wp2_with fail
    go_ret
    exact ⟨⟨none, 0, rfl, OwnL.nil _ _ _⟩, Below.refl _ _⟩
  | some ad =>
    have ho : OwnL encII (w.alloc (.cells #[] 52)) w.heap.size 52 (some ⟨w.heap.size, 0, none⟩) 0 ([] : List Iv) := own_lit w w.heap.size 52 #[] [] rfl (Nat.le_refl _) (by simp [maxLen])
    have hr2 := hr.alloc (Nat.le_refl _) (.cells #[] 52)
    go_wp2_with (at_builtin
                 refine wpList_app_sl encII sl_iv l rfl _ _ rfl rfl ho rfl hr2 (by simp; omega) (by simp [maxLen]; omega) (by simp) ?_
                 intro A2 c2 w3 hown3 hb3)
    go_ret
    exact ⟨⟨A2, c2, by simp, by simpa using hown3⟩, ((Below.refl _ _).alloc (Nat.le_refl _) _).trans hb3⟩
set_option maxHeartbeats 2000000 in
set_option maxRecDepth 100000 in
theorem w_mdelete (l : List Iv) (hl : l.length * 16 ≤ 140737488351232) (B : Nat) (A : Option Addr) (c : Nat) (w : World) (hB : B ≤ w.heap.size)
    (hown : OwnL encII w B 52 A c l) :
    Calls Try.prog 30 #[.slice A l.length c, .func (.func 32) #[] #[]] w
      (fun e w' => (∃ A2 c2, e = .returned (.slice A2 (mDrop l).length c2) ∧ OwnL encII w' B 52 A2 c2 (mDrop l)) ∧ Below B w w') := by
  have hl2 : l.length ≤ 140737488351232 := by omega
  go_enter Try.func30, Try.ntmps30
  rcases mIx_ge l 0 with h1 | ⟨m, h1, _, hm, hall, f0, hf0, hit0⟩
  · have hd := mDrop_all (mIx_none h1)
    go_wp2_with (go_at_call 37; refine (w_midx l hl2 A c _ hown.read).mono ?_; rintro e w2 ⟨rfl, hb2⟩)
    go_ret
    exact ⟨⟨A, c, by rw [hd]; rfl, by rw [hd]; exact hown.below hb2 (Nat.le_refl _)⟩, hb2.mono hB⟩
  · have hml : m < l.length := by omega
    obtain ⟨g, rfl, hg1, hg2⟩ := hown.some_ (by omega)
    have htake : mDrop (l.take m) = l.take m := mDrop_all (by simpa using hall)
    have hdm : mDrop (l.take (m + 1)) = l.take m := by
      have h8 : l[m]? = some f0 := by simpa using hf0
      rw [List.take_add_one, h8]
      unfold mDrop at htake ⊢
      rw [List.filter_append, htake]
      simp [hit0]
    have Hdm := Lib.hid hdm
    clear hdm htake hall hf0
    go_wp2_with (go_at_call 37; refine (w_midx l hl2 _ c _ hown.read).mono ?_; rintro e w2 ⟨rfl, hb2⟩)
    go_loopw [5, 6] (fun i' j' wr => ∃ (i j : Nat) (cur : List Iv), i' = .int .i64 i ∧ j' = .int .i64 j ∧ i < j ∧ j ≤ l.length ∧ cur.length = l.length ∧ cur.take i = mDrop (l.take j) ∧ cur.drop j = l.drop j ∧
      OwnL encII wr B 52 (some ⟨g, 0, none⟩) c cur ∧ Below B w wr) (fun _ j' _ => l.length - (intOf j').toNat)
    case atStart => exact ⟨m, m + 1, l, rfl, by go_num, by omega, by omega, rfl, Hdm.out.symm, rfl, hown.below hb2 (Nat.le_refl _), hb2.mono hB⟩
    case round =>
      obtain ⟨i, j, cur, rfl, rfl, hij, hj, hcl, htk, hdr, hown2, hbel⟩ := hrel
      have hbs := hbel.size
      by_cases hlt : j < l.length
      · obtain ⟨⟨n, y⟩, hfx, hs⟩ := drop_step hlt
        have hcj : cur[j]? = some (n, y) := by
          have := congrArg (fun t => t[0]?) hdr
          simpa [hfx] using this
        have hci : ∃ q, cur[i]? = some q := ⟨cur[i]'(by omega), List.getElem?_eq_getElem (by omega)⟩
        obtain ⟨q, hci⟩ := hci
        obtain ⟨hc0, hc1⟩ := hown2.get_II hcj
        have hgw := (hown2.lt _ rfl).2
        have hb3s : ∀ {w3 : World}, Below (wr.alloc (.cells #[.int .i64 n, .int .i64 y] 52)).heap.size (wr.alloc (.cells #[.int .i64 n, .int .i64 y] 52)) w3 → wr.heap.size + 1 ≤ w3.heap.size := fun h => by have := h.size; simpa using this
        have hBw : B ≤ wr.heap.size := by omega
        have hstep : mDrop (l.take (j + 1)) = mDrop (l.take j) ++ (if mHit (n, y) then [] else [(n, y)]) := by
          rw [List.take_add_one, hfx]
          unfold mDrop
          rw [List.filter_append]
          by_cases h : mHit (n, y) = true <;> simp [h]
        have hdr2 : cur.drop (j + 1) = l.drop (j + 1) := by
          have := congrArg (List.drop 1) hdr
          simpa [List.drop_drop] using this
        have hh : mHit (n, y) = (decide (y ≤ n)) := rfl
        rw [hh] at hstep
        have Hcj := Lib.hid hcj; clear hcj hs hfx hh hdr
        have hm1 := fun w => w_m1 n y w
        cases hw : (decide (y ≤ n))
        · rw [hw] at hm1
          rw [hw, if_neg (by simp)] at hstep
          clear hw
          have Hstep := Lib.hid hstep; clear hstep
          have Htk := Lib.hid htk; clear htk
          have Hdr2 := Lib.hid hdr2; clear hdr2
          go_wp2_with (go_at_call 32
                       refine (hm1 _).mono ?_
                       rintro e w3 ⟨rfl, hb3⟩
                       have hsz3 := hb3s hb3
                       have hbx := box_kept hb3
                       have hx0 : w3.cell? ⟨wr.heap.size, 0, none⟩ = some (.int .i64 n) := by rw [Lib.cell_of_heap hbx]; rfl
                       have hx1 : w3.cell? ⟨wr.heap.size, 1, none⟩ = some (.int .i64 y) := by rw [Lib.cell_of_heap hbx]; rfl
                       have hown3 := (hown2.alloc (.cells #[.int .i64 n, .int .i64 y] 52)).below hb3 (Nat.le_refl _)
                       have hq0 := (hown3.get_II hci).1
                       have hq1 := (hown3.get_II hci).2
                       have hf0 := hown3.frozen (i * 2)
                       have hf1 := hown3.frozen (i * 2 + 1))
          go_roundw
          case rel =>
            refine ⟨_, _, _, _, _, _, _, _, _, _, _, _, _, _, _, _, _, _, _, _, _, _, _, ?_, rfl⟩
            refine ⟨i + 1, j + 1, cur.set i (n, y), by go_num, by go_num, by omega, by omega, by simp [hcl], ?_, ?_, hown3.set_II i (n, y), ?_⟩
            · rw [Hstep.out, ← Htk.out, List.take_add_one, List.getElem?_set_self (by omega), List.take_set_of_le (Nat.le_refl i)]; rfl
            · rw [List.drop_set_of_lt (by omega), Hdr2.out]
            · exact ((((hbel.alloc hBw _).trans (hb3.mono (by simp; omega))).setCell (p := ⟨g, i * 2, none⟩) hg1 _).setCell (p := ⟨g, i * 2 + 1, none⟩) hg1 _)
          case measure => simp [intOf]; omega
        · rw [hw] at hm1
          rw [hw, if_pos rfl] at hstep
          clear hw
          have Hstep := Lib.hid hstep; clear hstep
          have Htk := Lib.hid htk; clear htk
          have Hdr2 := Lib.hid hdr2; clear hdr2
          go_wp2_with (go_at_call 32
                       refine (hm1 _).mono ?_
                       rintro e w3 ⟨rfl, hb3⟩
                       have hsz3 := hb3s hb3
                       have hown3 := (hown2.alloc (.cells #[.int .i64 n, .int .i64 y] 52)).below hb3 (Nat.le_refl _))
          go_roundw
          case rel =>
            refine ⟨_, _, _, _, _, _, _, _, _, _, _, _, _, _, _, _, _, _, _, _, _, _, _, ?_, rfl⟩
            refine ⟨i, j + 1, cur, by go_num, by go_num, by omega, by omega, hcl, ?_, Hdr2.out, hown3, ?_⟩
            · rw [Hstep.out, ← Htk.out]; simp
            · exact (hbel.alloc hBw _).trans (hb3.mono (by simp; omega))
          case measure => simp [intOf]; omega
      · obtain rfl : j = l.length := by omega
        rw [List.take_length] at htk
        have hil : (mDrop l).length = i := by rw [← htk, List.length_take]; omega
        have hcl2 : ∃ vs, (Builtin.clear_ #[49] 0 #[.slice (some ⟨g, i * 2, none⟩) (l.length - i) (c - i)]).run Try.prog wr = .ok (.tuple #[]) (wr.setCells g (i * 2) vs) := by
          refine run_clear2 wr 49 52 0 _ _ _ Try.underlying49 zero_iv rfl rfl rfl g (i * 2) (l.length - i) (c - i) (by omega) (fun k hk => ?_) (fun k hk => hown2.frozen _)
          obtain ⟨z0, hz0⟩ : ∃ z, cur[i + k / 2]? = some z := ⟨cur[i + k / 2]'(by omega), List.getElem?_eq_getElem (by omega)⟩
          have hz := hown2.get_II hz0
          rcases Nat.mod_two_eq_zero_or_one k with h | h
          · rw [show i * 2 + k = (i + k / 2) * 2 from by omega, hz.1]; rfl
          · rw [show i * 2 + k = (i + k / 2) * 2 + 1 from by omega, hz.2]; rfl
        obtain ⟨vs, hclr⟩ := hcl2
        obtain ⟨xs', ho1, ho2⟩ := own_setCells vs (i * 2) wr _ hown2
        have ho3 := row_take ho1 i (by omega)
        rw [show xs'.take (i * encII.size) = (cur.flatMap encII.enc).take (i * 2) from ho2] at ho3
        have ho4 : OwnL encII (wr.setCells g (i * 2) vs) B 52 (some ⟨g, 0, none⟩) c (mDrop l) := by
          have h5 := row_take hown2 i (by omega)
          unfold OwnL
          rw [hil, ← htk]
          have h6 : (cur.flatMap encII.enc).take (i * 2) = (cur.take i).flatMap encII.enc := by
            have h7 := (hown2.take i (by omega)).1
            have h8 : cur.flatMap encII.enc = (cur.take i).flatMap encII.enc ++ (cur.drop i).flatMap encII.enc := by rw [← List.flatMap_append, List.take_append_drop]
            rw [h8, List.take_left' (by rw [h7, List.length_take]; show _ * 2 = _; congr 1; omega)]
          rw [← h6]
          exact ho3
        have hlc := hown2.le_cap
        have hic1 : i ≤ c := by omega
        have hic2 : i < c := by omega
        have hic3 : ¬ c = i := by omega
        have hic4 : i < l.length := hij
        go_wp2_with fail
        go_ret
        exact ⟨⟨_, c, by rw [hil]; rfl, ho4⟩, below_setCells vs g _ _ _ hg1 hbel⟩
end Go.Proofs.Ytldlbfdfaigkcaa
