/- Walks: the reference's desk: a word and its arguments. -/
import Derived.Test.YtemjoiaapfhenaaGreatDoorGd22
import Derived.Test.YtemjoiaapfhenaaGreatDoorGd21
import Derived.Test.YtemjoiaapfhenaaGreatDoorGd07
import Derived.Test.YtemjoiaapfhenaaGreatDoorGd03
import Derived.Test.YtemjoiaapfhenaaGreatDoorGd09
import Derived.Test.YtemjoiaapfhenaaGreatDoorWCtlR
import Derived.Test.YtemjoiaapfhenaaGreatDoorWCtpR
import Derived.Test.YtemjoiaapfhenaaGreatDoorGd11
import Derived.Test.YtemjoiaapfhenaaGreatDoorGd13
import Derived.Test.YtemjoiaapfhenaaGreatDoorWDgE
import Derived.Test.YtemjoiaapfhenaaGreatDoorGd18
import Derived.Test.YtemjoiaapfhenaaGreatDoorGd02
namespace Go.Proofs.YtemjoiaapfhenaaGreatDoor
open Go.RowKit Go.Larder
set_option linter.unusedVariables false
set_option linter.unusedSimpArgs false
theorem w_HasD (x : List UInt8) (l : List (List UInt8)) (hl : l.length ≤ 140737488351232) (A : Option Addr) (c B : Nat) (w : World) (hr : ReadL encS w B A l) :
    Calls Tryz.prog 16 #[.slice A l.length c, S x] w (fun e w' => e = .returned (.bool (l.any fun y => x == y)) ∧ w = w') := by
  go_enter Tryz.func16, Tryz.ntmps16
  go_wp2_with fail
  go_loop [9] (fun i' => ∃ k : Nat, i' = .int .i64 k ∧ k ≤ l.length ∧ ((l.drop k).any fun y => x == y) = (l.any fun y => x == y)) (fun i' => l.length - (intOf i').toNat)
  case atStart => exact ⟨0, rfl, by omega, rfl⟩
  case round =>
    obtain ⟨k, rfl, hk, heq⟩ := hrel
    by_cases hlt : k < l.length
    · obtain ⟨y, hy, hs⟩ := drop_step hlt
      obtain ⟨g, off, rfl, hgb, hc0⟩ := hr.at_S hy
      rw [hs, List.any_cons] at heq
      clear hs hy
      cases hw : (x == y)
      · rw [hw] at heq
        have Heq := Lib.hid heq; clear heq
        go_wp2_with fail
        go_round
        case rel => exact ⟨k + 1, by go_num, by omega, by rw [← Heq.out]; simp⟩
        case measure => simp [intOf]; omega
      · rw [hw] at heq
        have Heq := Lib.hid heq; clear heq
        go_wp2_with fail
        go_ret
        exact ⟨by rw [← Heq.out]; rfl, rfl⟩
    · rw [drop_end hlt] at heq
      have Heq := Lib.hid heq; clear heq
      go_wp2_with fail
      go_ret
      exact ⟨by rw [← Heq.out]; rfl, rfl⟩

theorem w_truthD (b : Bool) (w : World) : Calls Tryz.prog 17 #[.bool b] w fun e w' => e = .returned (.int .i64 (if b then 1 else 0)) ∧ w = w' := by
  cases b
  all_goals
    go_enter Tryz.func17, Tryz.ntmps17
    go_wp2
    go_ret
    exact ⟨rfl, rfl⟩
abbrev wsD : List Txd := [wd_quote, wd_unquote, wd_split, wd_date, wd_time, wd_normal, wd_control, wd_tag, wd_range, wd_cut, wd_sum, wd_crc]
abbrev litD : Array Value := #[S wd_quote, S wd_unquote, S wd_split, S wd_date, S wd_time, S wd_normal, S wd_control, S wd_tag, S wd_range, S wd_cut, S wd_sum, S wd_crc]
theorem has_at (word : Txd) (w : World) : Calls Tryz.prog 16 #[.slice (some ⟨w.heap.size, 0, none⟩) 12 12, S word] (w.alloc (.cells litD 9)) fun e w' => e = .returned (.bool (wsD.any fun y => word == y)) ∧ (w.alloc (.cells litD 9)) = w' := by
  have hlit : OwnL encS (w.alloc (.cells litD 9)) w.heap.size 9 (some ⟨w.heap.size, 0, none⟩) 12 wsD := own_lit (E := encS) w w.heap.size 9 litD wsD rfl (Nat.le_refl _) (by simp [maxLen])
  exact w_HasD word wsD (by simp) _ 12 _ _ hlit.read
/-- what the reference's desk leaves: a text and 0, or some text and a number -/
def RfOut (w : World) (E : Except Int Txd) (e : Ending) (w' : World) : Prop := (match E with
  | .ok t => e = .returned (.tuple #[S t, .int .i64 0])
  | .error n => ∃ a, e = .returned (.tuple #[S a, .int .i64 n])) ∧ Below w.heap.size w w'
theorem RfOut.of {w w1 w' : World} {E : Except Int Txd} {e : Ending} (hb : Below w.heap.size w w1) (h : StPost w1 E e w') : RfOut w E e w' := by
  obtain ⟨h1, h2⟩ := h
  refine ⟨?_, hb.trans (h2.mono hb.size)⟩
  cases E with
  | error n => exact ⟨_, h1⟩
  | ok t => exact h1
/-- what the reference leans on -/
def DrW (w : World) : Prop := ML w ∧ AS w
theorem DrW.keep {w w' : World} (h : DrW w) (hb : Below w.heap.size w w') : DrW w' := ⟨h.1.keep hb, h.2.keep hb⟩
set_option maxHeartbeats 4000000 in
set_option maxRecDepth 100000 in
theorem w_rquote (s : Txd) (hs : s.length ≤ 1000) (A : Option Addr) (c : Nat) (w : World) (hr : ReadL encS w w.heap.size A [s]) (hD : DrW w) : Calls Tryz.prog 9 #[S wd_quote, .slice A 1 c] w (RfOut w (quoteD [s])) := by
  obtain ⟨g, off, rfl, hg, hc0⟩ := hr.at_S (k := 0) rfl
  rw [Nat.add_zero] at hc0
  have hHas := has_at wd_quote w
  rw [show (wsD.any fun y => wd_quote == y) = true from by decide] at hHas
  have hB0 : Below w.heap.size w (w.alloc (.cells litD 9)) := (Below.refl _ _).alloc (Nat.le_refl _) _
  have hc1 : (w.alloc (.cells litD 9)).cell? ⟨g, off, none⟩ = some (S s) := (hB0.cell hg).trans hc0
  have hD0 := hD.keep hB0
  have htr := fun W => w_truthD false W
  unfold quoteD
  simp only
  have hq := (by obtain ⟨m, hm⟩ := hD0.1; exact w_QuoteR s (by omega) m _ hm : Calls Tryz.prog 18 #[S s] (w.alloc (.cells litD 9)) (StPost (w.alloc (.cells litD 9)) (quoE s)))
  cases hR : quoE s with
  | error n =>
    have hq2 := hq.mono fun e w' h => StPost.er hR h
    clear hq
    go_enter Tryz.func9, Tryz.ntmps9
    go_wp2_with (first
      | (go_at_call 16; refine hHas.mono ?_; rintro e w1 ⟨rfl, rfl⟩)
      | (go_at_call 17; refine (htr _).mono ?_; rintro e w1 ⟨rfl, rfl⟩)
      | (go_at_call 18; refine hq2.mono ?_; rintro e w2 ⟨rfl, hb2⟩))
    go_ret2
    exact ⟨⟨_, rfl⟩, hB0.trans (hb2.mono hB0.size)⟩
  | ok t =>
    have hq2 := hq.mono fun e w' h => StPost.ok hR h
    clear hq
    go_enter Tryz.func9, Tryz.ntmps9
    go_wp2_with (first
      | (go_at_call 16; refine hHas.mono ?_; rintro e w1 ⟨rfl, rfl⟩)
      | (go_at_call 17; refine (htr _).mono ?_; rintro e w1 ⟨rfl, rfl⟩)
      | (go_at_call 18; refine hq2.mono ?_; rintro e w2 ⟨rfl, hb2⟩))
    go_ret2
    exact ⟨rfl, hB0.trans (hb2.mono hB0.size)⟩
set_option maxHeartbeats 4000000 in
set_option maxRecDepth 100000 in
theorem w_rnormal (s : Txd) (hs : s.length ≤ 1000) (A : Option Addr) (c : Nat) (w : World) (hr : ReadL encS w w.heap.size A [s]) (hD : DrW w) : Calls Tryz.prog 9 #[S wd_normal, .slice A 1 c] w (RfOut w (normalD [s])) := by
  obtain ⟨g, off, rfl, hg, hc0⟩ := hr.at_S (k := 0) rfl
  rw [Nat.add_zero] at hc0
  have hHas := has_at wd_normal w
  rw [show (wsD.any fun y => wd_normal == y) = true from by decide] at hHas
  have hB0 : Below w.heap.size w (w.alloc (.cells litD 9)) := (Below.refl _ _).alloc (Nat.le_refl _) _
  have hc1 : (w.alloc (.cells litD 9)).cell? ⟨g, off, none⟩ = some (S s) := (hB0.cell hg).trans hc0
  have hD0 := hD.keep hB0
  have htr := fun W => w_truthD false W
  unfold normalD
  simp only
  have hq := w_NormalR s (by omega) _ hD0.1
  cases hR : nrmE s with
  | error n =>
    have hq2 := hq.mono fun e w' h => StPost.er hR h
    clear hq
    go_enter Tryz.func9, Tryz.ntmps9
    go_wp2_with (first
      | (go_at_call 16; refine hHas.mono ?_; rintro e w1 ⟨rfl, rfl⟩)
      | (go_at_call 17; refine (htr _).mono ?_; rintro e w1 ⟨rfl, rfl⟩)
      | (go_at_call 26; refine hq2.mono ?_; rintro e w2 ⟨rfl, hb2⟩))
    go_ret2
    exact ⟨⟨_, rfl⟩, hB0.trans (hb2.mono hB0.size)⟩
  | ok t =>
    have hq2 := hq.mono fun e w' h => StPost.ok hR h
    clear hq
    go_enter Tryz.func9, Tryz.ntmps9
    go_wp2_with (first
      | (go_at_call 16; refine hHas.mono ?_; rintro e w1 ⟨rfl, rfl⟩)
      | (go_at_call 17; refine (htr _).mono ?_; rintro e w1 ⟨rfl, rfl⟩)
      | (go_at_call 26; refine hq2.mono ?_; rintro e w2 ⟨rfl, hb2⟩))
    go_ret2
    exact ⟨rfl, hB0.trans (hb2.mono hB0.size)⟩
set_option maxHeartbeats 4000000 in
set_option maxRecDepth 100000 in
theorem w_runquote (s : Txd) (hs : s.length ≤ 1000) (A : Option Addr) (c : Nat) (w : World) (hr : ReadL encS w w.heap.size A [s]) (hD : DrW w) : Calls Tryz.prog 9 #[S wd_unquote, .slice A 1 c] w (RfOut w (unquoteD [s])) := by
  obtain ⟨g, off, rfl, hg, hc0⟩ := hr.at_S (k := 0) rfl
  rw [Nat.add_zero] at hc0
  have hHas := has_at wd_unquote w
  rw [show (wsD.any fun y => wd_unquote == y) = true from by decide] at hHas
  have hB0 : Below w.heap.size w (w.alloc (.cells litD 9)) := (Below.refl _ _).alloc (Nat.le_refl _) _
  have hc1 : (w.alloc (.cells litD 9)).cell? ⟨g, off, none⟩ = some (S s) := (hB0.cell hg).trans hc0
  have hD0 := hD.keep hB0
  have htr := fun W => w_truthD false W
  unfold unquoteD
  simp only
  have hq := w_UnqAR s (by omega)
  generalize unqAll s = un at *
  obtain ⟨t, n⟩ := un
  simp only at hq
  unfold pairE
  by_cases hn : n = 0
  · subst hn
    simp only [if_true]
    go_enter Tryz.func9, Tryz.ntmps9
    go_wp2_with (first
      | (go_at_call 16; refine hHas.mono ?_; rintro e w1 ⟨rfl, rfl⟩)
      | (go_at_call 17; refine (htr _).mono ?_; rintro e w1 ⟨rfl, rfl⟩)
      | (go_at_call 19; refine (hq _).mono ?_; rintro e w2 ⟨rfl, hw2⟩; subst hw2))
    go_ret2
    exact ⟨rfl, hB0⟩
  · simp only [if_neg hn]
    go_enter Tryz.func9, Tryz.ntmps9
    go_wp2_with (first
      | (go_at_call 16; refine hHas.mono ?_; rintro e w1 ⟨rfl, rfl⟩)
      | (go_at_call 17; refine (htr _).mono ?_; rintro e w1 ⟨rfl, rfl⟩)
      | (go_at_call 19; refine (hq _).mono ?_; rintro e w2 ⟨rfl, hw2⟩; subst hw2))
    go_ret2
    exact ⟨⟨_, rfl⟩, hB0⟩
set_option maxHeartbeats 4000000 in
set_option maxRecDepth 100000 in
theorem w_rsplit (s : Txd) (hs : s.length ≤ 1000) (A : Option Addr) (c : Nat) (w : World) (hr : ReadL encS w w.heap.size A [s]) (hD : DrW w) : Calls Tryz.prog 9 #[S wd_split, .slice A 1 c] w (RfOut w (splitD [s])) := by
  obtain ⟨g, off, rfl, hg, hc0⟩ := hr.at_S (k := 0) rfl
  rw [Nat.add_zero] at hc0
  have hHas := has_at wd_split w
  rw [show (wsD.any fun y => wd_split == y) = true from by decide] at hHas
  have hB0 : Below w.heap.size w (w.alloc (.cells litD 9)) := (Below.refl _ _).alloc (Nat.le_refl _) _
  have hc1 : (w.alloc (.cells litD 9)).cell? ⟨g, off, none⟩ = some (S s) := (hB0.cell hg).trans hc0
  have hD0 := hD.keep hB0
  have htr := fun W => w_truthD false W
  unfold splitD
  simp only
  have hq := wt_SplitR s (by omega) (w.alloc (.cells litD 9))
  cases hR : splitE s with
  | error n =>
    have hq2 := hq.mono fun e w' h => SlPost.err h hR
    clear hq
    have hsz0 : ∀ W, Calls Tryz.prog 22 #[.slice none 0 0] W _ := fun W => w_rsizes [] (by simp) (by simp) none 0 W (fun h => absurd h (by simp))
    go_enter Tryz.func9, Tryz.ntmps9
    go_wp2_with (first
      | (go_at_call 16; refine hHas.mono ?_; rintro e w1 ⟨rfl, rfl⟩)
      | (go_at_call 17; refine (htr _).mono ?_; rintro e w1 ⟨rfl, rfl⟩)
      | (go_at_call 20; refine hq2.mono ?_; rintro e w2 ⟨rfl, hb2⟩; have hsz := hsz0 w2)
      | (go_at_call 22; refine hsz.mono ?_; rintro e w3 ⟨⟨A3, c3, rfl, ho3⟩, hb3⟩; have hli := w_rlisted (sizesL []) n A3 c3 w3 ho3.read (by simp only [sizesL, List.length_map]; first | omega | simp) (sizes_len (by simp)) ho3.le_cap)
      | (go_at_call 21; refine hli.mono ?_; rintro e w4 ⟨rfl, hb4⟩))
    go_ret2
    have hB2 := hB0.trans (hb2.mono hB0.size)
    have hB3 := hB2.trans (hb3.mono hB2.size)
    exact ⟨⟨_, rfl⟩, hB3.trans (hb4.mono hB3.size)⟩
  | ok out =>
    have hq2 := hq.mono fun e w' h => SlPost.ok_ h hR
    have ht := splitE_text hR
    have hk := splitE_ok hR
    have ht5 : ∀ x ∈ out, x.length ≤ 5000 := fun x hx => by have := ht x hx; omega
    clear hq
    go_enter Tryz.func9, Tryz.ntmps9
    go_wp2_with (first
      | (go_at_call 16; refine hHas.mono ?_; rintro e w1 ⟨rfl, rfl⟩)
      | (go_at_call 17; refine (htr _).mono ?_; rintro e w1 ⟨rfl, rfl⟩)
      | (go_at_call 20; refine hq2.mono ?_; rintro e w2 ⟨A2, c2, rfl, ho2, hb2⟩; have hsz := w_rsizes out (by omega) ht5 A2 c2 w2 ho2.read)
      | (go_at_call 22; refine hsz.mono ?_; rintro e w3 ⟨⟨A3, c3, rfl, ho3⟩, hb3⟩; have hli := w_rlisted (sizesL out) 0 A3 c3 w3 ho3.read (by simp only [sizesL, List.length_map]; first | omega | simp) (sizes_len ht5) ho3.le_cap)
      | (go_at_call 21; refine hli.mono ?_; rintro e w4 ⟨rfl, hb4⟩))
    go_ret2
    have hB2 := hB0.trans (hb2.mono hB0.size)
    have hB3 := hB2.trans (hb3.mono hB2.size)
    exact ⟨rfl, hB3.trans (hb4.mono hB3.size)⟩
set_option maxHeartbeats 4000000 in
set_option maxRecDepth 100000 in
theorem w_rdate (s : Txd) (hs : s.length ≤ 1000) (A : Option Addr) (c : Nat) (w : World) (hr : ReadL encS w w.heap.size A [s]) (hD : DrW w) : Calls Tryz.prog 9 #[S wd_date, .slice A 1 c] w (RfOut w (dateD [s])) := by
  obtain ⟨g, off, rfl, hg, hc0⟩ := hr.at_S (k := 0) rfl
  rw [Nat.add_zero] at hc0
  have hHas := has_at wd_date w
  rw [show (wsD.any fun y => wd_date == y) = true from by decide] at hHas
  have hB0 : Below w.heap.size w (w.alloc (.cells litD 9)) := (Below.refl _ _).alloc (Nat.le_refl _) _
  have hc1 : (w.alloc (.cells litD 9)).cell? ⟨g, off, none⟩ = some (S s) := (hB0.cell hg).trans hc0
  have hD0 := hD.keep hB0
  have htr := fun W => w_truthD false W
  unfold dateD
  simp only
  have hq := w_count s (by omega) 4611686018427387904 (by omega)
  unfold numE
  by_cases hneg : cnt s 4611686018427387904 < 0
  · rw [if_pos hneg]
    unfold bindE
    simp only
    generalize cnt s 4611686018427387904 = n at *
    go_enter Tryz.func9, Tryz.ntmps9
    go_wp2_with (first
      | (go_at_call 16; refine hHas.mono ?_; rintro e w1 ⟨rfl, rfl⟩)
      | (go_at_call 17; refine (htr _).mono ?_; rintro e w1 ⟨rfl, rfl⟩)
      | (go_at_call 23; refine (hq _).mono ?_; rintro e w2 ⟨rfl, hw2⟩; subst hw2))
    go_ret2
    exact ⟨⟨_, rfl⟩, hB0⟩
  · rw [if_neg hneg]
    unfold bindE
    simp only
    generalize cnt s 4611686018427387904 = n at *
    have hd := fun W => w_rdprint n W
    cases hR : dprE n with
    | error m =>
      have hd2 := fun W => (hd W).mono fun e w' h => StPost.er hR h
      clear hd
      go_enter Tryz.func9, Tryz.ntmps9
      go_wp2_with (first
        | (go_at_call 16; refine hHas.mono ?_; rintro e w1 ⟨rfl, rfl⟩)
        | (go_at_call 17; refine (htr _).mono ?_; rintro e w1 ⟨rfl, rfl⟩)
        | (go_at_call 23; refine (hq _).mono ?_; rintro e w2 ⟨rfl, hw2⟩; subst hw2)
        | (go_at_call 24; refine (hd2 _).mono ?_; rintro e w3 ⟨rfl, hb3⟩))
      go_ret2
      exact ⟨⟨_, rfl⟩, hB0.trans (hb3.mono hB0.size)⟩
    | ok t =>
      have hd2 := fun W => (hd W).mono fun e w' h => StPost.ok hR h
      clear hd
      go_enter Tryz.func9, Tryz.ntmps9
      go_wp2_with (first
        | (go_at_call 16; refine hHas.mono ?_; rintro e w1 ⟨rfl, rfl⟩)
        | (go_at_call 17; refine (htr _).mono ?_; rintro e w1 ⟨rfl, rfl⟩)
        | (go_at_call 23; refine (hq _).mono ?_; rintro e w2 ⟨rfl, hw2⟩; subst hw2)
        | (go_at_call 24; refine (hd2 _).mono ?_; rintro e w3 ⟨rfl, hb3⟩))
      go_ret2
      exact ⟨rfl, hB0.trans (hb3.mono hB0.size)⟩
set_option maxHeartbeats 4000000 in
set_option maxRecDepth 100000 in
theorem w_rtime (s : Txd) (hs : s.length ≤ 1000) (A : Option Addr) (c : Nat) (w : World) (hr : ReadL encS w w.heap.size A [s]) (hD : DrW w) : Calls Tryz.prog 9 #[S wd_time, .slice A 1 c] w (RfOut w (timeD [s])) := by
  obtain ⟨g, off, rfl, hg, hc0⟩ := hr.at_S (k := 0) rfl
  rw [Nat.add_zero] at hc0
  have hHas := has_at wd_time w
  rw [show (wsD.any fun y => wd_time == y) = true from by decide] at hHas
  have hB0 : Below w.heap.size w (w.alloc (.cells litD 9)) := (Below.refl _ _).alloc (Nat.le_refl _) _
  have hc1 : (w.alloc (.cells litD 9)).cell? ⟨g, off, none⟩ = some (S s) := (hB0.cell hg).trans hc0
  have hD0 := hD.keep hB0
  have htr := fun W => w_truthD false W
  unfold timeD
  simp only
  have hq := w_dateR s (by omega) _ hD0.1
  have hbd := dtE_bd s
  generalize dtE s = dt at *
  obtain ⟨n, b⟩ := dt
  simp only at hq hbd
  have hi := fun W => w_Dig n (by omega) (by omega) W
  go_enter Tryz.func9, Tryz.ntmps9
  go_wp2_with (first
    | (go_at_call 16; refine hHas.mono ?_; rintro e w1 ⟨rfl, rfl⟩)
    | (go_at_call 17; refine (htr _).mono ?_; rintro e w1 ⟨rfl, rfl⟩)
    | (go_at_call 25; refine hq.mono ?_; rintro e w2 ⟨rfl, hb2⟩)
    | (go_at_call 10; refine (hi _).mono ?_; rintro e w4 ⟨rfl, hb4⟩))
  go_ret2
  have hB2 := hB0.trans (hb2.mono hB0.size)
  refine ⟨?_, hB2.trans (hb4.mono hB2.size)⟩
  cases b
  · exact ⟨_, rfl⟩
  · rfl
set_option maxHeartbeats 4000000 in
set_option maxRecDepth 100000 in
theorem w_rcontrol (s : Txd) (hs : s.length ≤ 1000) (A : Option Addr) (c : Nat) (w : World) (hr : ReadL encS w w.heap.size A [s]) (hD : DrW w) : Calls Tryz.prog 9 #[S wd_control, .slice A 1 c] w (RfOut w (controlD [s])) := by
  obtain ⟨g, off, rfl, hg, hc0⟩ := hr.at_S (k := 0) rfl
  rw [Nat.add_zero] at hc0
  have hHas := has_at wd_control w
  rw [show (wsD.any fun y => wd_control == y) = true from by decide] at hHas
  have hB0 : Below w.heap.size w (w.alloc (.cells litD 9)) := (Below.refl _ _).alloc (Nat.le_refl _) _
  have hc1 : (w.alloc (.cells litD 9)).cell? ⟨g, off, none⟩ = some (S s) := (hB0.cell hg).trans hc0
  have hD0 := hD.keep hB0
  have htr := fun W => w_truthD false W
  unfold controlD
  simp only
  have hq := w_CtlParseR s (by omega) (w.alloc (.cells litD 9))
  unfold bindE
  cases hN : ctlE s with
  | error n =>
    have hn := ctlE_ne hN
    have hq2 := hq.mono fun e w' h => SlPost.err h hN
    have hnI : (n != 0) = true := by simpa using hn
    clear hq
    go_enter Tryz.func9, Tryz.ntmps9
    go_wp2_with (first
      | (go_at_call 16; refine hHas.mono ?_; rintro e w1 ⟨rfl, rfl⟩)
      | (go_at_call 17; refine (htr _).mono ?_; rintro e w1 ⟨rfl, rfl⟩)
      | (go_at_call 27; refine hq2.mono ?_; rintro e w2 ⟨rfl, hb2⟩))
    go_ret2
    exact ⟨⟨_, rfl⟩, hB0.trans (hb2.mono hB0.size)⟩
  | ok ds =>
    have hq2 := hq.mono fun e w' h => SlPost.ok_ h hN
    obtain ⟨hk, hbd⟩ := ctlE_bd hN
    have hsum : (ds.map dW).sum ≤ 1048576 := dW_sum hk hbd
    clear hq hN
    simp only
    cases hR : cpE ds with
    | error n =>
      go_enter Tryz.func9, Tryz.ntmps9
      go_wp2_with (first
        | (go_at_call 16; refine hHas.mono ?_; rintro e w1 ⟨rfl, rfl⟩)
        | (go_at_call 17; refine (htr _).mono ?_; rintro e w1 ⟨rfl, rfl⟩)
        | (go_at_call 27; refine hq2.mono ?_; rintro e w2 ⟨A2, c2, rfl, ho2, hb2⟩; have hcp := (w_CPrintR ds hsum A2 c2 w2 ho2.read (hD0.keep hb2).1).mono fun e w' h => StPost.er hR h)
        | (go_at_call 28; refine hcp.mono ?_; rintro e w4 ⟨rfl, hb4⟩))
      go_ret2
      have hB2 := hB0.trans (hb2.mono hB0.size)
      exact ⟨⟨_, rfl⟩, hB2.trans (hb4.mono hB2.size)⟩
    | ok t =>
      go_enter Tryz.func9, Tryz.ntmps9
      go_wp2_with (first
        | (go_at_call 16; refine hHas.mono ?_; rintro e w1 ⟨rfl, rfl⟩)
        | (go_at_call 17; refine (htr _).mono ?_; rintro e w1 ⟨rfl, rfl⟩)
        | (go_at_call 27; refine hq2.mono ?_; rintro e w2 ⟨A2, c2, rfl, ho2, hb2⟩; have hcp := (w_CPrintR ds hsum A2 c2 w2 ho2.read (hD0.keep hb2).1).mono fun e w' h => StPost.ok hR h)
        | (go_at_call 28; refine hcp.mono ?_; rintro e w4 ⟨rfl, hb4⟩))
      go_ret2
      have hB2 := hB0.trans (hb2.mono hB0.size)
      exact ⟨rfl, hB2.trans (hb4.mono hB2.size)⟩
set_option maxHeartbeats 4000000 in
set_option maxRecDepth 100000 in
theorem w_rtag (s : Txd) (hs : s.length ≤ 1000) (A : Option Addr) (c : Nat) (w : World) (hr : ReadL encS w w.heap.size A [s]) (hD : DrW w) : Calls Tryz.prog 9 #[S wd_tag, .slice A 1 c] w (RfOut w (tagD [s])) := by
  obtain ⟨g, off, rfl, hg, hc0⟩ := hr.at_S (k := 0) rfl
  rw [Nat.add_zero] at hc0
  have hHas := has_at wd_tag w
  rw [show (wsD.any fun y => wd_tag == y) = true from by decide] at hHas
  have hB0 : Below w.heap.size w (w.alloc (.cells litD 9)) := (Below.refl _ _).alloc (Nat.le_refl _) _
  have hc1 : (w.alloc (.cells litD 9)).cell? ⟨g, off, none⟩ = some (S s) := (hB0.cell hg).trans hc0
  have hD0 := hD.keep hB0
  have htr := fun W => w_truthD false W
  unfold tagD
  simp only
  have hq := w_tparseR s (by omega) (w.alloc (.cells litD 9))
  unfold tagT
  cases hN : parseTR s with
  | none =>
    rw [hN] at hq
    unfold TPost at hq
    simp only at hq
    rw [if_neg (by simp)]
    go_enter Tryz.func9, Tryz.ntmps9
    go_wp2_with (first
      | (go_at_call 16; refine hHas.mono ?_; rintro e w1 ⟨rfl, rfl⟩)
      | (go_at_call 17; refine (htr _).mono ?_; rintro e w1 ⟨rfl, rfl⟩)
      | (go_at_call 29; refine hq.mono ?_; rintro e w2 ⟨rfl, hb2⟩))
    go_ret2
    have hB2 := hB0.trans (hb2.mono hB0.size)
    exact ⟨⟨_, rfl⟩, hB2.alloc hB2.size _⟩
  | some wt =>
    obtain ⟨wk, t⟩ := wt
    rw [hN] at hq
    unfold TPost at hq
    simp only at hq
    rw [if_pos (by simp)]
    go_enter Tryz.func9, Tryz.ntmps9
    go_wp2_with (first
      | (go_at_call 16; refine hHas.mono ?_; rintro e w1 ⟨rfl, rfl⟩)
      | (go_at_call 17; refine (htr _).mono ?_; rintro e w1 ⟨rfl, rfl⟩)
      | (go_at_call 29; refine hq.mono ?_; rintro e w2 ⟨rfl, hb2⟩))
    go_ret2
    have hB2 := hB0.trans (hb2.mono hB0.size)
    exact ⟨rfl, hB2.alloc hB2.size _⟩
set_option maxHeartbeats 4000000 in
set_option maxRecDepth 100000 in
theorem w_rcut (s : Txd) (hs : s.length ≤ 1000) (A : Option Addr) (c : Nat) (w : World) (hr : ReadL encS w w.heap.size A [s]) (hD : DrW w) : Calls Tryz.prog 9 #[S wd_cut, .slice A 1 c] w (RfOut w (cutD [s])) := by
  obtain ⟨g, off, rfl, hg, hc0⟩ := hr.at_S (k := 0) rfl
  rw [Nat.add_zero] at hc0
  have hHas := has_at wd_cut w
  rw [show (wsD.any fun y => wd_cut == y) = true from by decide] at hHas
  have hB0 : Below w.heap.size w (w.alloc (.cells litD 9)) := (Below.refl _ _).alloc (Nat.le_refl _) _
  have hc1 : (w.alloc (.cells litD 9)).cell? ⟨g, off, none⟩ = some (S s) := (hB0.cell hg).trans hc0
  have hD0 := hD.keep hB0
  have htr := fun W => w_truthD false W
  unfold cutD
  simp only
  have hq := w_CutC s (by omega) (w.alloc (.cells litD 9))
  have hk := cutC_cnt s
  have ht5 : ∀ x ∈ cutC s, x.length ≤ 5000 := cutC_short (by omega)
  generalize cutC s = out at *
  go_enter Tryz.func9, Tryz.ntmps9
  go_wp2_with (first
    | (go_at_call 16; refine hHas.mono ?_; rintro e w1 ⟨rfl, rfl⟩)
    | (go_at_call 17; refine (htr _).mono ?_; rintro e w1 ⟨rfl, rfl⟩)
    | (go_at_call 30; refine hq.mono ?_; rintro e w2 ⟨A2, c2, rfl, ho2, hb2⟩; have hsz := w_rsizes out (by omega) ht5 A2 c2 w2 ho2.read)
    | (go_at_call 22; refine hsz.mono ?_; rintro e w3 ⟨⟨A3, c3, rfl, ho3⟩, hb3⟩; have hli := w_rlisted (sizesL out) 0 A3 c3 w3 ho3.read (by simp only [sizesL, List.length_map]; first | omega | simp) (sizes_len ht5) ho3.le_cap)
    | (go_at_call 21; refine hli.mono ?_; rintro e w4 ⟨rfl, hb4⟩))
  go_ret2
  have hB2 := hB0.trans (hb2.mono hB0.size)
  have hB3 := hB2.trans (hb3.mono hB2.size)
  exact ⟨rfl, hB3.trans (hb4.mono hB3.size)⟩
set_option maxHeartbeats 4000000 in
set_option maxRecDepth 100000 in
theorem w_rsum (s : Txd) (hs : s.length ≤ 1000) (A : Option Addr) (c : Nat) (w : World) (hr : ReadL encS w w.heap.size A [s]) (hD : DrW w) : Calls Tryz.prog 9 #[S wd_sum, .slice A 1 c] w (RfOut w (sumD [s])) := by
  obtain ⟨g, off, rfl, hg, hc0⟩ := hr.at_S (k := 0) rfl
  rw [Nat.add_zero] at hc0
  have hHas := has_at wd_sum w
  rw [show (wsD.any fun y => wd_sum == y) = true from by decide] at hHas
  have hB0 : Below w.heap.size w (w.alloc (.cells litD 9)) := (Below.refl _ _).alloc (Nat.le_refl _) _
  have hc1 : (w.alloc (.cells litD 9)).cell? ⟨g, off, none⟩ = some (S s) := (hB0.cell hg).trans hc0
  have hD0 := hD.keep hB0
  have htr := fun W => w_truthD false W
  unfold sumD
  simp only
  have hq := w_DigestR s (by omega) _ hD0.2
  have hx := fun W => w_DHexR (digL s) (by have := digL_len s; omega) W
  go_enter Tryz.func9, Tryz.ntmps9
  go_wp2_with (first
    | (go_at_call 16; refine hHas.mono ?_; rintro e w1 ⟨rfl, rfl⟩)
    | (go_at_call 17; refine (htr _).mono ?_; rintro e w1 ⟨rfl, rfl⟩)
    | (go_at_call 32; refine hq.mono ?_; rintro e w2 ⟨rfl, hb2⟩)
    | (go_at_call 31; refine (hx _).mono ?_; rintro e w4 ⟨rfl, hb4⟩))
  go_ret2
  have hB2 := hB0.trans (hb2.mono hB0.size)
  exact ⟨rfl, hB2.trans (hb4.mono hB2.size)⟩
set_option maxHeartbeats 4000000 in
set_option maxRecDepth 100000 in
theorem w_rcrc (s : Txd) (hs : s.length ≤ 1000) (A : Option Addr) (c : Nat) (w : World) (hr : ReadL encS w w.heap.size A [s]) (hD : DrW w) : Calls Tryz.prog 9 #[S wd_crc, .slice A 1 c] w (RfOut w (crcD [s])) := by
  obtain ⟨g, off, rfl, hg, hc0⟩ := hr.at_S (k := 0) rfl
  rw [Nat.add_zero] at hc0
  have hHas := has_at wd_crc w
  rw [show (wsD.any fun y => wd_crc == y) = true from by decide] at hHas
  have hB0 : Below w.heap.size w (w.alloc (.cells litD 9)) := (Below.refl _ _).alloc (Nat.le_refl _) _
  have hc1 : (w.alloc (.cells litD 9)).cell? ⟨g, off, none⟩ = some (S s) := (hB0.cell hg).trans hc0
  have hD0 := hD.keep hB0
  have htr := fun W => w_truthD false W
  unfold crcD
  simp only
  have hq := w_CrcR s (by omega) (w.alloc (.cells litD 9))
  have hc := crc_lt s
  have hx := fun W => w_Dig ((crc s : Nat) : Int) (by omega) (by omega) W
  rw [Int.toNat_natCast] at hx
  go_enter Tryz.func9, Tryz.ntmps9
  go_wp2_with (first
    | (go_at_call 16; refine hHas.mono ?_; rintro e w1 ⟨rfl, rfl⟩)
    | (go_at_call 17; refine (htr _).mono ?_; rintro e w1 ⟨rfl, rfl⟩)
    | (go_at_call 33; refine hq.mono ?_; rintro e w2 ⟨rfl, hw2⟩; subst hw2)
    | (go_at_call 10; refine (hx _).mono ?_; rintro e w4 ⟨rfl, hb4⟩))
  go_ret2
  exact ⟨rfl, hB0.trans (hb4.mono hB0.size)⟩
end Go.Proofs.YtemjoiaapfhenaaGreatDoor
