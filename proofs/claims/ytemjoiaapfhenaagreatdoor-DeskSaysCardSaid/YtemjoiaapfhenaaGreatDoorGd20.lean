/- WDk2, WDkS -/
import Derived.Test.YtemjoiaapfhenaaGreatDoorGd02
import Derived.Test.YtemjoiaapfhenaaGreatDoorGd06
import Derived.Test.YtemjoiaapfhenaaGreatDoorGd07
import Derived.Test.YtemjoiaapfhenaaGreatDoorGd04
import Derived.Test.YtemjoiaapfhenaaGreatDoorGd08
import Derived.Test.YtemjoiaapfhenaaGreatDoorGd10
import Derived.Test.YtemjoiaapfhenaaGreatDoorGd12
import Derived.Test.YtemjoiaapfhenaaGreatDoorGd11
import Derived.Test.YtemjoiaapfhenaaGreatDoorGd13
import Derived.Test.YtemjoiaapfhenaaGreatDoorGd17
import Derived.Test.YtemjoiaapfhenaaGreatDoorWSpq
import Derived.Test.YtemjoiaapfhenaaGreatDoorWSpan1
import Derived.Test.YtemjoiaapfhenaaGreatDoorGd00
import Derived.Deep.RegionLaw

/- WDk2 -/
section
namespace Go.Proofs.YtemjoiaapfhenaaGreatDoor
open Go.RowKit Go.Larder
set_option linter.unusedVariables false
set_option linter.unusedSimpArgs false
/-- what a desk's commands lean on -/
def DkW (w : World) : Prop := PW w ∧ ML w ∧ EV w
theorem DkW.keep {w w' : World} (h : DkW w) (hb : Below w.heap.size w w') : DkW w' := ⟨h.1.keep hb, h.2.1.keep hb, h.2.2.keep hb⟩
/-- a command: called with whatever words, it answers as the function says -/
def CmdOk (f : Nat) (F : List Txd → Except Int Txd) : Prop := ∀ (l : List Txd) (A : Option Addr) (c : Nat) (w : World), ReadL encS w w.heap.size A l → l.length ≤ 400 → (∀ x ∈ l, x.length ≤ 1000) → DkW w → Calls Tryz.prog f #[.slice A l.length c] w (Told w (F l))
theorem cutC_short {s : Txd} {B : Nat} (h : s.length ≤ B) : ∀ x ∈ cutC s, x.length ≤ B := fun x hx => by
  have h1 := cutC_flat s
  have h2 : x.length ≤ (cutC s).flatten.length := (List.sublist_flatten_of_mem hx).length_le
  rw [h1] at h2
  omega
theorem w_dprint (n : Int) (w : World) (hP : PW w) : Calls Tryz.prog 48 #[.int .i64 n] w (StPost w (dprE n)) := by
  by_cases h : n < 0 ∨ 253402300799 < n
  · rw [dprE_no h]
    exact (w_Print_out n h w).mono fun e w' ⟨he, hw⟩ => ⟨he, hw ▸ Below.refl _ _⟩
  · obtain ⟨y, m, r, hc⟩ := civil_exists (n / 86400).toNat
    rw [show (((n / 86400).toNat : Nat) : Int) = n / 86400 from by omega] at hc
    rw [dprE_yes ⟨y, m, r, hc, by omega, by omega, rfl⟩]
    exact w_Print n y r m hc (by omega) (by omega) w hP
theorem StPost.er {w w' : World} {R : Except Int Txd} {n : Int} {e : Ending} (hR : R = .error n) (h : StPost w R e w') : e = .returned (.tuple #[S [], .int .i64 n]) ∧ Below w.heap.size w w' := by subst hR; exact h
theorem StPost.ok {w w' : World} {R : Except Int Txd} {t : Txd} {e : Ending} (hR : R = .ok t) (h : StPost w R e w') : e = .returned (.tuple #[S t, .int .i64 0]) ∧ Below w.heap.size w w' := by subst hR; exact h
set_option maxHeartbeats 1000000 in
theorem w_c1 : CmdOk 38 quoteD := by
  intro l A c w hr hl hs ⟨hP, hM, hE⟩
  by_cases h1 : ∃ s, l = [s]
  · obtain ⟨s, rfl⟩ := h1
    have hs1 := hs s (by simp)
    have hone := w_done1 s A c w hr
    unfold quoteD
    simp only
    have hq := w_Quote s (by omega) w
    cases hR : quoE s with
    | error n =>
      have hn := quoE_ne hR
      have hq2 := hq.mono fun e w' h => StPost.er hR h
      clear hq
      go_enter Tryz.func38, Tryz.ntmps38
      go_wp2_with (first
        | (go_at_call 41; refine hone.mono ?_; rintro e w1 ⟨rfl, rfl⟩)
        | (go_at_call 40; refine hq2.mono ?_; rintro e w2 ⟨rfl, hb2⟩)
        | (go_at_call 39; refine (w_dtoldN _ n hn _).mono ?_; rintro e w3 ⟨rfl, rfl⟩))
      exact ⟨rfl, ⟨rfl, hn⟩, hb2⟩
    | ok t =>
      have hq2 := hq.mono fun e w' h => StPost.ok hR h
      clear hq
      go_enter Tryz.func38, Tryz.ntmps38
      go_wp2_with (first
        | (go_at_call 41; refine hone.mono ?_; rintro e w1 ⟨rfl, rfl⟩)
        | (go_at_call 40; refine hq2.mono ?_; rintro e w2 ⟨rfl, hb2⟩)
        | (go_at_call 39; refine (w_dtold0 _ _).mono ?_; rintro e w3 ⟨rfl, rfl⟩))
      go_ret
      exact ⟨rfl, hb2⟩
  · have hB : quoteD l = .error 3 := by
      rcases l with _ | ⟨a, _ | ⟨b, r⟩⟩
      · rfl
      · exact absurd ⟨a, rfl⟩ h1
      · rfl
    rw [hB]
    have hone := w_doneN l A c (fun s hh => h1 ⟨s, hh⟩)
    go_enter Tryz.func38, Tryz.ntmps38
    go_wp2_with (go_at_call 41; refine (hone _).mono ?_; rintro e w1 ⟨rfl, rfl⟩)
    exact ⟨rfl, ⟨rfl, by decide⟩, Below.refl _ _⟩
set_option maxHeartbeats 1000000 in
theorem w_c6 : CmdOk 52 normalD := by
  intro l A c w hr hl hs ⟨hP, hM, hE⟩
  by_cases h1 : ∃ s, l = [s]
  · obtain ⟨s, rfl⟩ := h1
    have hs1 := hs s (by simp)
    have hone := w_done1 s A c w hr
    unfold normalD
    simp only
    have hq := w_Normal s (by omega) w hM
    cases hR : nrmE s with
    | error n =>
      have hn := nrmE_ne hR
      have hq2 := hq.mono fun e w' h => StPost.er hR h
      clear hq
      go_enter Tryz.func52, Tryz.ntmps52
      go_wp2_with (first
        | (go_at_call 41; refine hone.mono ?_; rintro e w1 ⟨rfl, rfl⟩)
        | (go_at_call 53; refine hq2.mono ?_; rintro e w2 ⟨rfl, hb2⟩)
        | (go_at_call 39; refine (w_dtoldN _ n hn _).mono ?_; rintro e w3 ⟨rfl, rfl⟩))
      exact ⟨rfl, ⟨rfl, hn⟩, hb2⟩
    | ok t =>
      have hq2 := hq.mono fun e w' h => StPost.ok hR h
      clear hq
      go_enter Tryz.func52, Tryz.ntmps52
      go_wp2_with (first
        | (go_at_call 41; refine hone.mono ?_; rintro e w1 ⟨rfl, rfl⟩)
        | (go_at_call 53; refine hq2.mono ?_; rintro e w2 ⟨rfl, hb2⟩)
        | (go_at_call 39; refine (w_dtold0 _ _).mono ?_; rintro e w3 ⟨rfl, rfl⟩))
      go_ret
      exact ⟨rfl, hb2⟩
  · have hB : normalD l = .error 3 := by
      rcases l with _ | ⟨a, _ | ⟨b, r⟩⟩
      · rfl
      · exact absurd ⟨a, rfl⟩ h1
      · rfl
    rw [hB]
    have hone := w_doneN l A c (fun s hh => h1 ⟨s, hh⟩)
    go_enter Tryz.func52, Tryz.ntmps52
    go_wp2_with (go_at_call 41; refine (hone _).mono ?_; rintro e w1 ⟨rfl, rfl⟩)
    exact ⟨rfl, ⟨rfl, by decide⟩, Below.refl _ _⟩
set_option maxHeartbeats 1000000 in
theorem w_c2 : CmdOk 42 unquoteD := by
  intro l A c w hr hl hs ⟨hP, hM, hE⟩
  by_cases h1 : ∃ s, l = [s]
  · obtain ⟨s, rfl⟩ := h1
    have hs1 := hs s (by simp)
    have hone := w_done1 s A c w hr
    unfold unquoteD
    simp only
    have hq := w_UnqA s (by omega) w
    generalize unqAll s = un at hq
    obtain ⟨t, n⟩ := un
    simp only at hq
    unfold pairE
    by_cases hn : n = 0
    · subst hn
      simp only [if_true]
      go_enter Tryz.func42, Tryz.ntmps42
      go_wp2_with (first
        | (go_at_call 41; refine hone.mono ?_; rintro e w1 ⟨rfl, rfl⟩)
        | (go_at_call 43; refine hq.mono ?_; rintro e w2 ⟨rfl, hb2⟩)
        | (go_at_call 39; refine (w_dtold0 _ _).mono ?_; rintro e w3 ⟨rfl, rfl⟩))
      go_ret
      exact ⟨rfl, hb2⟩
    · simp only [if_neg hn]
      go_enter Tryz.func42, Tryz.ntmps42
      go_wp2_with (first
        | (go_at_call 41; refine hone.mono ?_; rintro e w1 ⟨rfl, rfl⟩)
        | (go_at_call 43; refine hq.mono ?_; rintro e w2 ⟨rfl, hb2⟩)
        | (go_at_call 39; refine (w_dtoldN _ n hn _).mono ?_; rintro e w3 ⟨rfl, rfl⟩))
      exact ⟨rfl, ⟨rfl, hn⟩, hb2⟩
  · have hB : unquoteD l = .error 3 := by
      rcases l with _ | ⟨a, _ | ⟨b, r⟩⟩
      · rfl
      · exact absurd ⟨a, rfl⟩ h1
      · rfl
    rw [hB]
    have hone := w_doneN l A c (fun s hh => h1 ⟨s, hh⟩)
    go_enter Tryz.func42, Tryz.ntmps42
    go_wp2_with (go_at_call 41; refine (hone _).mono ?_; rintro e w1 ⟨rfl, rfl⟩)
    exact ⟨rfl, ⟨rfl, by decide⟩, Below.refl _ _⟩
set_option maxHeartbeats 1000000 in
theorem w_c3 : CmdOk 44 splitD := by
  intro l A c w hr hl hs ⟨hP, hM, hE⟩
  by_cases h1 : ∃ s, l = [s]
  · obtain ⟨s, rfl⟩ := h1
    have hs1 := hs s (by simp)
    have hone := w_done1 s A c w hr
    unfold splitD
    simp only
    have hq := wt_Split s (by omega) w
    cases hR : splitE s with
    | error n =>
      have hn := splitE_ne hR
      have hq2 := hq.mono fun e w' h => SlPost.err h hR
      clear hq
      go_enter Tryz.func44, Tryz.ntmps44
      go_wp2_with (first
        | (go_at_call 41; refine hone.mono ?_; rintro e w1 ⟨rfl, rfl⟩)
        | (go_at_call 45; refine hq2.mono ?_; rintro e w2 ⟨rfl, hb2⟩)
        | (go_at_call 14; refine (w_dfailsN _ hn _).mono ?_; rintro e w3 ⟨rfl, rfl⟩))
      exact ⟨rfl, ⟨rfl, hn⟩, hb2⟩
    | ok out =>
      have hq2 := hq.mono fun e w' h => SlPost.ok_ h hR
      have ht := splitE_text hR
      have hk := splitE_ok hR
      clear hq hR
      go_enter Tryz.func44, Tryz.ntmps44
      go_wp2_with (first
        | (go_at_call 41; refine hone.mono ?_; rintro e w1 ⟨rfl, rfl⟩)
        | (go_at_call 45; refine hq2.mono ?_; rintro e w2 ⟨A2, c2, rfl, ho2, hb2⟩; have hsz := w_dsizes out (by omega) (fun x hx => by have := ht x hx; omega) A2 c2 w2 ho2.read (hP.keep hb2))
        | (go_at_call 14; refine (w_dfails0 _).mono ?_; rintro e w3 ⟨rfl, rfl⟩)
        | (go_at_call 46; refine hsz.mono ?_; rintro e w4 ⟨rfl, hb4⟩))
      go_ret
      exact ⟨rfl, hb2.trans (hb4.mono hb2.size)⟩
  · have hB : splitD l = .error 3 := by
      rcases l with _ | ⟨a, _ | ⟨b, r⟩⟩
      · rfl
      · exact absurd ⟨a, rfl⟩ h1
      · rfl
    rw [hB]
    have hone := w_doneN l A c (fun s hh => h1 ⟨s, hh⟩)
    go_enter Tryz.func44, Tryz.ntmps44
    go_wp2_with (go_at_call 41; refine (hone _).mono ?_; rintro e w1 ⟨rfl, rfl⟩)
    exact ⟨rfl, ⟨rfl, by decide⟩, Below.refl _ _⟩
set_option maxHeartbeats 1000000 in
theorem w_c4 : CmdOk 47 dateD := by
  intro l A c w hr hl hs ⟨hP, hM, hE⟩
  by_cases h1 : ∃ s, l = [s]
  · obtain ⟨s, rfl⟩ := h1
    have hs1 := hs s (by simp)
    have hone := w_done1 s A c w hr
    unfold dateD
    simp only
    have hq := w_dnum s (by omega) w hE hP
    unfold bindE
    cases hN : numE s with
    | error n =>
      have hq2 := hq.mono fun e w' h => NumD.er hN h
      clear hq
      go_enter Tryz.func47, Tryz.ntmps47
      go_wp2_with (first
        | (go_at_call 41; refine hone.mono ?_; rintro e w1 ⟨rfl, rfl⟩)
        | (go_at_call 49; refine hq2.mono ?_; rintro e w2 ⟨rfl, hn, hb2⟩))
      exact ⟨rfl, ⟨rfl, hn⟩, hb2⟩
    | ok v =>
      have hq2 := hq.mono fun e w' h => NumD.ok hN h
      clear hq
      have hd := fun W hW => w_dprint v W hW
      simp only
      cases hR : dprE v with
      | error n =>
        have hn := dprE_ne hR
        have hd2 := fun W hW => (hd W hW).mono fun e w' h => StPost.er hR h
        clear hd
        go_enter Tryz.func47, Tryz.ntmps47
        go_wp2_with (first
          | (go_at_call 41; refine hone.mono ?_; rintro e w1 ⟨rfl, rfl⟩)
          | (go_at_call 49; refine hq2.mono ?_; rintro e w2 ⟨rfl, hb2⟩)
          | (go_at_call 48; refine (hd2 _ (hP.keep hb2)).mono ?_; rintro e w4 ⟨rfl, hb4⟩)
          | (go_at_call 39; refine (w_dtoldN _ n hn _).mono ?_; rintro e w3 ⟨rfl, rfl⟩))
        exact ⟨rfl, ⟨rfl, hn⟩, hb2.trans (hb4.mono hb2.size)⟩
      | ok t =>
        have hd2 := fun W hW => (hd W hW).mono fun e w' h => StPost.ok hR h
        clear hd
        go_enter Tryz.func47, Tryz.ntmps47
        go_wp2_with (first
          | (go_at_call 41; refine hone.mono ?_; rintro e w1 ⟨rfl, rfl⟩)
          | (go_at_call 49; refine hq2.mono ?_; rintro e w2 ⟨rfl, hb2⟩)
          | (go_at_call 48; refine (hd2 _ (hP.keep hb2)).mono ?_; rintro e w4 ⟨rfl, hb4⟩)
          | (go_at_call 39; refine (w_dtold0 _ _).mono ?_; rintro e w3 ⟨rfl, rfl⟩))
        go_ret
        exact ⟨rfl, hb2.trans (hb4.mono hb2.size)⟩
  · have hB : dateD l = .error 3 := by
      rcases l with _ | ⟨a, _ | ⟨b, r⟩⟩
      · rfl
      · exact absurd ⟨a, rfl⟩ h1
      · rfl
    rw [hB]
    have hone := w_doneN l A c (fun s hh => h1 ⟨s, hh⟩)
    go_enter Tryz.func47, Tryz.ntmps47
    go_wp2_with (go_at_call 41; refine (hone _).mono ?_; rintro e w1 ⟨rfl, rfl⟩)
    exact ⟨rfl, ⟨rfl, by decide⟩, Below.refl _ _⟩
set_option maxHeartbeats 1000000 in
theorem w_c5 : CmdOk 50 timeD := by
  intro l A c w hr hl hs ⟨hP, hM, hE⟩
  by_cases h1 : ∃ s, l = [s]
  · obtain ⟨s, rfl⟩ := h1
    have hs1 := hs s (by simp)
    have hone := w_done1 s A c w hr
    unfold timeD
    simp only
    have hq := w_date s (by omega) w hP hM
    have hbd := dtE_bd s
    generalize dtE s = dt at hq hbd
    obtain ⟨n, b⟩ := dt
    simp only at hq hbd
    have hi := fun W hW => w_Itoa n (by omega) W hW
    rw [itoa_nn hbd.1] at hi
    cases b
    · have hn : ¬ (3 : Int) = 0 := by decide
      simp only [errI, Bool.false_eq_true, if_false] at hq
      go_enter Tryz.func50, Tryz.ntmps50
      go_wp2_with (first
        | (go_at_call 41; refine hone.mono ?_; rintro e w1 ⟨rfl, rfl⟩)
        | (go_at_call 51; refine hq.mono ?_; rintro e w2 ⟨rfl, hb2⟩)
        | (go_at_call 12; refine (hi _ (hP.keep hb2)).mono ?_; rintro e w4 ⟨rfl, hb4⟩)
        | (go_at_call 39; refine (w_dtoldN _ 3 hn _).mono ?_; rintro e w3 ⟨rfl, rfl⟩))
      exact ⟨rfl, ⟨rfl, hn⟩, hb2.trans (hb4.mono hb2.size)⟩
    · simp only [errI, if_true] at hq
      go_enter Tryz.func50, Tryz.ntmps50
      go_wp2_with (first
        | (go_at_call 41; refine hone.mono ?_; rintro e w1 ⟨rfl, rfl⟩)
        | (go_at_call 51; refine hq.mono ?_; rintro e w2 ⟨rfl, hb2⟩)
        | (go_at_call 12; refine (hi _ (hP.keep hb2)).mono ?_; rintro e w4 ⟨rfl, hb4⟩)
        | (go_at_call 39; refine (w_dtold0 _ _).mono ?_; rintro e w3 ⟨rfl, rfl⟩))
      go_ret
      exact ⟨rfl, hb2.trans (hb4.mono hb2.size)⟩
  · have hB : timeD l = .error 3 := by
      rcases l with _ | ⟨a, _ | ⟨b, r⟩⟩
      · rfl
      · exact absurd ⟨a, rfl⟩ h1
      · rfl
    rw [hB]
    have hone := w_doneN l A c (fun s hh => h1 ⟨s, hh⟩)
    go_enter Tryz.func50, Tryz.ntmps50
    go_wp2_with (go_at_call 41; refine (hone _).mono ?_; rintro e w1 ⟨rfl, rfl⟩)
    exact ⟨rfl, ⟨rfl, by decide⟩, Below.refl _ _⟩
set_option maxHeartbeats 1000000 in
theorem w_c7 : CmdOk 54 controlD := by
  intro l A c w hr hl hs ⟨hP, hM, hE⟩
  by_cases h1 : ∃ s, l = [s]
  · obtain ⟨s, rfl⟩ := h1
    have hs1 := hs s (by simp)
    have hone := w_done1 s A c w hr
    unfold controlD
    simp only
    have hq := w_CtlParse s (by omega) w
    unfold bindE
    cases hN : ctlE s with
    | error n =>
      have hn := ctlE_ne hN
      have hq2 := hq.mono fun e w' h => SlPost.err h hN
      clear hq
      go_enter Tryz.func54, Tryz.ntmps54
      go_wp2_with (first
        | (go_at_call 41; refine hone.mono ?_; rintro e w1 ⟨rfl, rfl⟩)
        | (go_at_call 55; refine hq2.mono ?_; rintro e w2 ⟨rfl, hb2⟩)
        | (go_at_call 14; refine (w_dfailsN _ hn _).mono ?_; rintro e w3 ⟨rfl, rfl⟩))
      exact ⟨rfl, ⟨rfl, hn⟩, hb2⟩
    | ok ds =>
      have hq2 := hq.mono fun e w' h => SlPost.ok_ h hN
      obtain ⟨hk, hbd⟩ := ctlE_bd hN
      have hsum : (ds.map dW).sum ≤ 1048576 := dW_sum hk hbd
      clear hq hN
      simp only
      cases hR : cpE ds with
      | error n =>
        have hn := cpE_ne hR
        go_enter Tryz.func54, Tryz.ntmps54
        go_wp2_with (first
          | (go_at_call 41; refine hone.mono ?_; rintro e w1 ⟨rfl, rfl⟩)
          | (go_at_call 55; refine hq2.mono ?_; rintro e w2 ⟨A2, c2, rfl, ho2, hb2⟩; have hcp := (w_CPrint ds hsum A2 c2 w2 ho2.read).mono fun e w' h => StPost.er hR h)
          | (go_at_call 14; refine (w_dfails0 _).mono ?_; rintro e w3 ⟨rfl, rfl⟩)
          | (go_at_call 56; refine hcp.mono ?_; rintro e w4 ⟨rfl, hb4⟩)
          | (go_at_call 39; refine (w_dtoldN _ n hn _).mono ?_; rintro e w3 ⟨rfl, rfl⟩))
        exact ⟨rfl, ⟨rfl, hn⟩, hb2.trans (hb4.mono hb2.size)⟩
      | ok t =>
        go_enter Tryz.func54, Tryz.ntmps54
        go_wp2_with (first
          | (go_at_call 41; refine hone.mono ?_; rintro e w1 ⟨rfl, rfl⟩)
          | (go_at_call 55; refine hq2.mono ?_; rintro e w2 ⟨A2, c2, rfl, ho2, hb2⟩; have hcp := (w_CPrint ds hsum A2 c2 w2 ho2.read).mono fun e w' h => StPost.ok hR h)
          | (go_at_call 14; refine (w_dfails0 _).mono ?_; rintro e w3 ⟨rfl, rfl⟩)
          | (go_at_call 56; refine hcp.mono ?_; rintro e w4 ⟨rfl, hb4⟩)
          | (go_at_call 39; refine (w_dtold0 _ _).mono ?_; rintro e w3 ⟨rfl, rfl⟩))
        go_ret
        exact ⟨rfl, hb2.trans (hb4.mono hb2.size)⟩
  · have hB : controlD l = .error 3 := by
      rcases l with _ | ⟨a, _ | ⟨b, r⟩⟩
      · rfl
      · exact absurd ⟨a, rfl⟩ h1
      · rfl
    rw [hB]
    have hone := w_doneN l A c (fun s hh => h1 ⟨s, hh⟩)
    go_enter Tryz.func54, Tryz.ntmps54
    go_wp2_with (go_at_call 41; refine (hone _).mono ?_; rintro e w1 ⟨rfl, rfl⟩)
    exact ⟨rfl, ⟨rfl, by decide⟩, Below.refl _ _⟩
set_option maxHeartbeats 1000000 in
theorem w_c8 : CmdOk 57 tagD := by
  intro l A c w hr hl hs ⟨hP, hM, hE⟩
  by_cases h1 : ∃ s, l = [s]
  · obtain ⟨s, rfl⟩ := h1
    have hs1 := hs s (by simp)
    have hone := w_done1 s A c w hr
    unfold tagD
    simp only
    have hq := w_tparse s (by omega) w
    rw [parseT_eq] at hq
    unfold tagT
    cases hN : parseTR s with
    | none =>
      have hn : ¬ (3 : Int) = 0 := by decide
      rw [hN] at hq
      unfold TPost at hq
      simp only at hq
      rw [if_neg (by simp)]
      go_enter Tryz.func57, Tryz.ntmps57
      go_wp2_with (first
        | (go_at_call 41; refine hone.mono ?_; rintro e w1 ⟨rfl, rfl⟩)
        | (go_at_call 58; refine hq.mono ?_; rintro e w2 ⟨rfl, hb2⟩)
        | (go_at_call 14; refine (w_dfailsN _ hn _).mono ?_; rintro e w3 ⟨rfl, rfl⟩))
      exact ⟨rfl, ⟨rfl, hn⟩, hb2.alloc hb2.size _⟩
    | some wt =>
      obtain ⟨wk, t⟩ := wt
      have hb := tag_back hN
      rw [hN] at hq
      unfold TPost at hq
      simp only at hq
      rw [if_pos (by simp)]
      have hp := fun W => (w_TagPrint wk t W).mono fun e w' h => StPost.ok hb h
      go_enter Tryz.func57, Tryz.ntmps57
      go_wp2_with (first
        | (go_at_call 41; refine hone.mono ?_; rintro e w1 ⟨rfl, rfl⟩)
        | (go_at_call 58; refine hq.mono ?_; rintro e w2 ⟨rfl, hb2⟩)
        | (go_at_call 14; refine (w_dfails0 _).mono ?_; rintro e w3 ⟨rfl, rfl⟩)
        | (go_at_call 59; refine (hp _).mono ?_; rintro e w4 ⟨rfl, hb4⟩)
        | (go_at_call 39; refine (w_dtold0 _ _).mono ?_; rintro e w3 ⟨rfl, rfl⟩))
      go_ret
      exact ⟨rfl, (hb2.alloc hb2.size _).trans (hb4.mono (hb2.alloc hb2.size _).size)⟩
  · have hB : tagD l = .error 3 := by
      rcases l with _ | ⟨a, _ | ⟨b, r⟩⟩
      · rfl
      · exact absurd ⟨a, rfl⟩ h1
      · rfl
    rw [hB]
    have hone := w_doneN l A c (fun s hh => h1 ⟨s, hh⟩)
    go_enter Tryz.func57, Tryz.ntmps57
    go_wp2_with (go_at_call 41; refine (hone _).mono ?_; rintro e w1 ⟨rfl, rfl⟩)
    exact ⟨rfl, ⟨rfl, by decide⟩, Below.refl _ _⟩
set_option maxHeartbeats 1000000 in
theorem w_c9 : CmdOk 61 cutD := by
  intro l A c w hr hl hs ⟨hP, hM, hE⟩
  by_cases h1 : ∃ s, l = [s]
  · obtain ⟨s, rfl⟩ := h1
    have hs1 := hs s (by simp)
    have hone := w_done1 s A c w hr
    unfold cutD
    simp only
    have hq := w_CCut s (by omega) w
    have hk := cutC_cnt s
    have ht : ∀ x ∈ cutC s, x.length ≤ 5000 := cutC_short (by omega)
    generalize cutC s = out at *
    go_enter Tryz.func61, Tryz.ntmps61
    go_wp2_with (first
      | (go_at_call 41; refine hone.mono ?_; rintro e w1 ⟨rfl, rfl⟩)
      | (go_at_call 62; refine hq.mono ?_; rintro e w2 ⟨A2, c2, rfl, ho2, hb2⟩; have hsz := w_dsizes out (by omega) ht A2 c2 w2 ho2.read (hP.keep hb2))
      | (go_at_call 46; refine hsz.mono ?_; rintro e w4 ⟨rfl, hb4⟩))
    go_ret
    exact ⟨rfl, hb2.trans (hb4.mono hb2.size)⟩
  · have hB : cutD l = .error 3 := by
      rcases l with _ | ⟨a, _ | ⟨b, r⟩⟩
      · rfl
      · exact absurd ⟨a, rfl⟩ h1
      · rfl
    rw [hB]
    have hone := w_doneN l A c (fun s hh => h1 ⟨s, hh⟩)
    go_enter Tryz.func61, Tryz.ntmps61
    go_wp2_with (go_at_call 41; refine (hone _).mono ?_; rintro e w1 ⟨rfl, rfl⟩)
    exact ⟨rfl, ⟨rfl, by decide⟩, Below.refl _ _⟩
set_option maxHeartbeats 1000000 in
theorem w_c10 : CmdOk 63 sumD := by
  intro l A c w hr hl hs ⟨hP, hM, hE⟩
  by_cases h1 : ∃ s, l = [s]
  · obtain ⟨s, rfl⟩ := h1
    have hs1 := hs s (by simp)
    have hone := w_done1 s A c w hr
    unfold sumD
    simp only
    have hq := w_DSum s (by omega) w
    have hx := fun W => w_DHex (digL s) (by have := digL_len s; omega) W
    go_enter Tryz.func63, Tryz.ntmps63
    go_wp2_with (first
      | (go_at_call 41; refine hone.mono ?_; rintro e w1 ⟨rfl, rfl⟩)
      | (go_at_call 65; refine hq.mono ?_; rintro e w2 ⟨rfl, hb2⟩)
      | (go_at_call 64; refine (hx _).mono ?_; rintro e w4 ⟨rfl, hb4⟩))
    go_ret
    exact ⟨rfl, hb2.trans (hb4.mono hb2.size)⟩
  · have hB : sumD l = .error 3 := by
      rcases l with _ | ⟨a, _ | ⟨b, r⟩⟩
      · rfl
      · exact absurd ⟨a, rfl⟩ h1
      · rfl
    rw [hB]
    have hone := w_doneN l A c (fun s hh => h1 ⟨s, hh⟩)
    go_enter Tryz.func63, Tryz.ntmps63
    go_wp2_with (go_at_call 41; refine (hone _).mono ?_; rintro e w1 ⟨rfl, rfl⟩)
    exact ⟨rfl, ⟨rfl, by decide⟩, Below.refl _ _⟩
set_option maxHeartbeats 1000000 in
theorem w_c11 : CmdOk 66 crcD := by
  intro l A c w hr hl hs ⟨hP, hM, hE⟩
  by_cases h1 : ∃ s, l = [s]
  · obtain ⟨s, rfl⟩ := h1
    have hs1 := hs s (by simp)
    have hone := w_done1 s A c w hr
    unfold crcD
    simp only
    have hq := w_Crc s (by omega) w
    have hc := crc_lt s
    have hx := fun W hW => w_FmtU (crc s) (by omega) W hW
    go_enter Tryz.func66, Tryz.ntmps66
    go_wp2_with (first
      | (go_at_call 41; refine hone.mono ?_; rintro e w1 ⟨rfl, rfl⟩)
      | (go_at_call 68; refine hq.mono ?_; rintro e w2 ⟨rfl, rfl⟩)
      | (go_at_call 67; refine (hx _ hP).mono ?_; rintro e w4 ⟨rfl, hb4⟩))
    go_ret
    exact ⟨rfl, hb4⟩
  · have hB : crcD l = .error 3 := by
      rcases l with _ | ⟨a, _ | ⟨b, r⟩⟩
      · rfl
      · exact absurd ⟨a, rfl⟩ h1
      · rfl
    rw [hB]
    have hone := w_doneN l A c (fun s hh => h1 ⟨s, hh⟩)
    go_enter Tryz.func66, Tryz.ntmps66
    go_wp2_with (go_at_call 41; refine (hone _).mono ?_; rintro e w1 ⟨rfl, rfl⟩)
    exact ⟨rfl, ⟨rfl, by decide⟩, Below.refl _ _⟩
end Go.Proofs.YtemjoiaapfhenaaGreatDoor
end

/- WDkS -/
section
namespace Go.Proofs.YtemjoiaapfhenaaGreatDoor
open Go.RowKit Go.Larder
set_option linter.unusedVariables false
set_option linter.unusedSimpArgs false
theorem slotT_snoc {l : List (Int × Int)} {k : Nat} {x : Int × Int} (h : l[k]? = some x) : (l.take (k + 1)).map slotT = (l.take k).map slotT ++ [slotT x] := by
  rw [List.take_add_one, h]; simp
theorem slotT_len {x : Int × Int} (h : 0 ≤ x.1 ∧ x.1 ≤ 1000000000000000000 ∧ 0 ≤ x.2 ∧ x.2 ≤ 1000000000000000000) : (slotT x).length ≤ 100 := by
  have h1 := itL_len (n := x.1.toNat) (by omega)
  have h2 := itL_len (n := x.2.toNat) (by omega)
  simp only [slotT, List.length_append, List.length_cons, List.length_nil]
  omega
theorem itoa_at (n : Int) (h0 : 0 ≤ n) (h1 : n ≤ 1000000000000000000) (W : World) (hW : PW W) : Calls Tryz.prog 12 #[.int .i64 n] W fun e w' => e = .returned (S (itL n.toNat)) ∧ Below W.heap.size W w' := by
  have := w_Itoa n (by omega) W hW
  rw [itoa_nn h0] at this
  exact this
theorem spnE_len {s : Txd} {l : List (Int × Int)} (h : spnE s = .ok l) : l.length ≤ 20 := by
  unfold spnE at h
  split at h
  · split at h
    · cases h
    · split at h
      · cases h
      · injection h with h; subst h; omega
  · cases h
set_option maxHeartbeats 4000000 in
set_option maxRecDepth 100000 in
theorem w_dranges2 (s t : Txd) (hs : s.length ≤ 1000) (ht : t.length ≤ 1000) (A : Option Addr) (c : Nat) (w : World) (hr : ReadL encS w w.heap.size A [s, t]) (hD : DkW w) : Calls Tryz.prog 60 #[.slice A 2 c] w (Told w (rangeE s t)) := by
  obtain ⟨hP, hM, hE⟩ := hD
  obtain ⟨g, off, rfl, hg, hc0⟩ := hr.at_S (k := 0) rfl
  obtain ⟨g', off', hA, hg', hc1⟩ := hr.at_S (k := 1) rfl
  obtain ⟨rfl, rfl⟩ : g = g' ∧ off = off' := by injection hA with hA; injection hA with h1 h2; exact ⟨h1, h2⟩
  rw [Nat.add_zero] at hc0
  have hn := w_dnum t (by omega) w hE hP
  have hsp := fun W hE hP hM => w_SParse s (by omega) W hE hP hM
  obtain ⟨R, hR⟩ : ∃ R, rangeE s t = R := ⟨_, rfl⟩
  rw [hR]
  unfold rangeE bindE at hR
  cases hN : numE t with
  | error n =>
    have hn2 := hn.mono fun e w' h => NumD.er hN h
    rw [hN] at hR
    subst hR
    clear hn hN
    go_enter Tryz.func60, Tryz.ntmps60
    go_wp2_with (go_at_call 49; refine hn2.mono ?_; rintro e w2 ⟨rfl, hn, hb2⟩)
    exact ⟨rfl, ⟨rfl, hn⟩, hb2⟩
  | ok size =>
    have hn2 := hn.mono fun e w' h => NumD.ok hN h
    obtain ⟨hs0, hs1⟩ := numE_bd hN
    rw [hN] at hR
    simp only at hR
    clear hn hN
    cases hS : spnE s with
    | error n =>
      have hne := spnE_ne hS
      have hsp2 := fun W hE hP hM => (hsp W hE hP hM).mono fun e w' h => SlPost.err h hS
      rw [hS] at hR
      subst hR
      clear hsp hS
      go_enter Tryz.func60, Tryz.ntmps60
      go_wp2_with (first
        | (go_at_call 49; refine hn2.mono ?_; rintro e w2 ⟨rfl, hb2⟩; have hc0 := (hb2.cell hg).trans hc0)
        | (go_at_call 123; refine (hsp2 _ (hE.keep hb2) (hP.keep hb2) (hM.keep hb2)).mono ?_; rintro e w3 ⟨rfl, hb3⟩)
        | (go_at_call 14; refine (w_dfailsN _ hne _).mono ?_; rintro e w4 ⟨rfl, rfl⟩))
      exact ⟨rfl, ⟨rfl, hne⟩, hb2.trans (hb3.mono hb2.size)⟩
    | ok want =>
      have hsp2 := fun W hE hP hM => (hsp W hE hP hM).mono fun e w' h => SlPost.ok_ h hS
      have hwl : want.length ≤ 20 := spnE_len hS
      rw [hS] at hR
      simp only at hR
      clear hsp hS
      cases hV : spanRes want size with
      | error n =>
        have hne := spanRes_ne hV
        rw [hV] at hR
        subst hR
        go_enter Tryz.func60, Tryz.ntmps60
        go_wp2_with (first
          | (go_at_call 49; refine hn2.mono ?_; rintro e w2 ⟨rfl, hb2⟩; have hc0 := (hb2.cell hg).trans hc0)
          | (go_at_call 123; refine (hsp2 _ (hE.keep hb2) (hP.keep hb2) (hM.keep hb2)).mono ?_; rintro e w3 ⟨A3, c3, rfl, ho3, hb3⟩; have hrs := (w_Resolve want size (by omega) (by omega) A3 c3 w3 ho3.read).mono fun e w' h => SlPost.err h hV)
          | (go_at_call 14; first | (refine (w_dfails0 _).mono ?_; rintro e w4 ⟨rfl, rfl⟩) | (refine (w_dfailsN _ hne _).mono ?_; rintro e w4 ⟨rfl, rfl⟩))
          | (go_at_call 124; refine hrs.mono ?_; rintro e w5 ⟨rfl, hb5⟩))
        have hB3 := hb2.trans (hb3.mono hb2.size)
        exact ⟨rfl, ⟨rfl, hne⟩, hB3.trans (hb5.mono hB3.size)⟩
      | ok some_ =>
        have hvl : some_.length ≤ 20 := spanRes_len hV
        have hbd := spanRes_bd hV
        rw [hV] at hR
        simp only at hR
        have HR := Lib.hid hR
        clear hR
        go_enter Tryz.func60, Tryz.ntmps60
        go_wp2_with (first
          | (go_at_call 49; refine hn2.mono ?_; rintro e w2 ⟨rfl, hb2⟩; have hc0 := (hb2.cell hg).trans hc0)
          | (go_at_call 123; refine (hsp2 _ (hE.keep hb2) (hP.keep hb2) (hM.keep hb2)).mono ?_; rintro e w3 ⟨A3, c3, rfl, ho3, hb3⟩; have hrs := (w_Resolve want size (by omega) (by omega) A3 c3 w3 ho3.read).mono fun e w' h => SlPost.ok_ h hV)
          | (go_at_call 14; refine (w_dfails0 _).mono ?_; rintro e w4 ⟨rfl, hq⟩; obtain rfl := hq.symm)
          | (go_at_call 124; refine hrs.mono ?_; rintro e w5 ⟨A5, c5, rfl, ho5, hb5⟩))
        have hB3 := hb2.trans (hb3.mono hb2.size)
        have hB5 := hB3.trans (hb5.mono hB3.size)
        have hP5 := hP.keep hB5
        have hrd := ho5.read
        clear hc0 hc1 hsp2 hn2 hrs
        go_loopw [7, 37] (fun o i' wr => ∃ (k : Nat) (out : List Txd) (A2 : Option Addr) (c2 : Nat), i' = .int .i64 k ∧ o = .slice A2 out.length c2 ∧ k ≤ some_.length ∧ out.length ≤ k ∧ OwnL encS wr w5.heap.size 9 A2 c2 out ∧ Below w5.heap.size w5 wr ∧ Hid (out = (some_.take k).map slotT)) (fun _ i' _ => some_.length - (intOf i').toNat)
        case atStart => exact ⟨0, [], none, 0, rfl, rfl, by omega, by simp, OwnL.nil _ _ _, Below.refl _ _, Lib.hid rfl⟩
        case round =>
          obtain ⟨k, out, A2, c2, rfl, rfl, hk, hok, hown, hbel, Ho⟩ := hrel
          have hbs := hbel.size
          have hPr := hP5.keep hbel
          by_cases hlt : k < some_.length
          · obtain ⟨⟨a, b⟩, hx, _⟩ := drop_step hlt
            obtain ⟨ha0, ha1, hb0, hb1⟩ := hbd _ (List.mem_of_getElem? hx)
            simp only at ha0 ha1 hb0 hb1
            obtain ⟨gx, ox, rfl, hgx, hx0, hx1⟩ := (hrd.below hbel (Nat.le_refl _)).at_II hx
            have hsn := slotT_snoc hx
            have hsl := slotT_len (x := (a, b)) ⟨ha0, by omega, hb0, by omega⟩
            have hta : slotT (a, b) = itL a.toNat ++ [45] ++ itL b.toNat := rfl
            have hi1 := fun W hW => itoa_at a ha0 (by omega) W hW
            have hi2 := fun W hW => itoa_at b hb0 (by omega) W hW
            have hla := itL_len (n := a.toNat) (by omega)
            have hlb := itL_len (n := b.toNat) (by omega)
            simp only at hx0 hx1
            rw [hta] at hsn
            generalize itL a.toNat = ta at hi1 hla hsn
            generalize itL b.toNat = tb at hi2 hlb hsn
            obtain ⟨A1, hA1⟩ : ∃ x, ta ++ [45] = x := ⟨_, rfl⟩
            have lA1 : A1.length = ta.length + ([45] : List UInt8).length := by rw [← hA1, List.length_append]
            (try simp only [List.length_cons, List.length_nil] at lA1)
            have aA1 : ∀ w, (Op.stringOp .add ⟨ta.toArray⟩ ⟨#[45]⟩).run Tryz.prog w = .ok (.string ⟨A1.toArray⟩) w := fun w => by rw [← hA1]; exact run_cat (ta) [45] (by first | omega | (simp; omega) | simp) (by first | omega | (simp; omega) | simp) w
            obtain ⟨TT, hA2⟩ : ∃ x, A1 ++ tb = x := ⟨_, rfl⟩
            have lA2 : TT.length = A1.length + tb.length := by rw [← hA2, List.length_append]
            (try simp only [List.length_cons, List.length_nil] at lA2)
            have aA2 : ∀ w, (Op.stringOp .add ⟨A1.toArray⟩ ⟨tb.toArray⟩).run Tryz.prog w = .ok (.string ⟨TT.toArray⟩) w := fun w => by rw [← hA2]; exact run_cat (A1) tb (by first | omega | (simp; omega) | simp) (by first | omega | (simp; omega) | simp) w
            replace lA1 := Nat.le_of_eq lA1
            replace lA2 := Nat.le_of_eq lA2
            rw [hA1, hA2] at hsn
            have Hsn := Lib.hid hsn
            clear hsn hx hta hsl hA1 hA2
            have hbA : Below wr.heap.size wr (wr.alloc (.cells #[.int .i64 a, .int .i64 b] 70)) := (Below.refl _ _).alloc (Nat.le_refl _) _
            have hPa : PW (wr.alloc (.cells #[.int .i64 a, .int .i64 b] 70)) := hPr.keep hbA
            have bxa := BoxAt.new wr [.int .i64 a, .int .i64 b] 70
            have c20 := bxa.drew.cell (j := 0) rfl
            have c21 := bxa.drew.cell (j := 1) rfl
            go_wp2_with fail
            go_region_law (first
              | (go_simp; go_at_call 12; refine Calls.mono (hi1 _ (by exact hPa)) ?_; rintro e w6 ⟨rfl, hb6⟩; have hP6 := hPa.drew.keep hb6; have bx6 := bxa.drew.keep hb6; have q0 := bx6.cell (j := 0) rfl; have q1 := bx6.cell (j := 1) rfl)
              | (go_simp; go_at_call 12; refine Calls.mono (hi2 _ (by exact hP6)) ?_; rintro e w7 ⟨rfl, hb7⟩; have bx7 := bx6.keep hb7; have r0 := bx7.cell (j := 0) rfl; have r1 := bx7.cell (j := 1) rfl; have hB7 : Below w5.heap.size w5 w7 := ((hbel.alloc hbs (.cells #[.int .i64 a, .int .i64 b] 70)).drew.trans (hb6.mono (by show w5.heap.size ≤ (wr.alloc _).heap.size; simp; omega))).trans (hb7.mono (by have := ((hbel.alloc hbs (.cells #[.int .i64 a, .int .i64 b] 70)).drew.trans (hb6.mono (by show w5.heap.size ≤ (wr.alloc _).heap.size; simp; omega))).size; exact this)); have hown7 : OwnL encS w7 w5.heap.size 9 A2 c2 out := (((hown.alloc (.cells #[.int .i64 a, .int .i64 b] 70)).drew).below hb6 (Nat.le_refl _)).below hb7 (Nat.le_refl _); have hlit : OwnL encS (w7.alloc (.cells #[S TT] 9)) w5.heap.size 9 (some ⟨w7.heap.size, 0, none⟩) 1 [TT] := own_lit (E := encS) w7 w5.heap.size 9 #[S TT] [TT] rfl hB7.size (by simp [maxLen]))
              | (refine step_app_atn (base := w5.heap.size) encS sl_strDk [TT] rfl _ _ (by rfl) (l := out) (by rfl) (by exact hown7.alloc _) (by rfl) (by exact hlit.read) rfl rfl (by simp; omega) (by simp [maxLen]; omega) (by simp; exact Nat.le_succ_of_le hB7.size) ?_; intro A8 c8 w8 ho8 hg8 hb8))
            all_goals
              go_wp2_with fail
              go_roundw
              case rel => exact ⟨k + 1, out ++ [TT], A8, c8, by go_num, by simp, by omega, by simp; omega, ho8, (hB7.alloc hB7.size _).trans hb8, Lib.hid (by rw [Hsn.out, ← Ho.out])⟩
              case measure => simp [intOf]; omega
          · obtain rfl : k = some_.length := by omega
            have ho := Ho.out
            rw [List.take_length] at ho
            have hrd2 := hown.read
            have hcap := hown.le_cap
            have hli := w_dlist out A2 c2 wr hrd2 (by omega) (by
              rw [ho]
              intro x hx
              obtain ⟨y, hy, rfl⟩ := List.mem_map.1 hx
              obtain ⟨h1, h2, h3, h4⟩ := hbd _ hy
              have := slotT_len (x := y) ⟨h1, by omega, h3, by omega⟩
              omega) hcap
            have Hq := Lib.hid (show R = .ok (listL out) from by rw [← HR.out, ho])
            clear ho HR
            go_wp2_with (go_at_call 107; refine hli.mono ?_; rintro e w6 ⟨rfl, hb6⟩)
            go_ret
            rw [Hq.out]
            exact ⟨rfl, hB5.trans ((hbel.trans (hb6.mono hbs)).mono hB5.size)⟩
theorem w_dranges : CmdOk 60 rangeD := by
  intro l A c w hr hl hs hD
  by_cases h1 : ∃ s t, l = [s, t]
  · obtain ⟨s, t, rfl⟩ := h1
    exact w_dranges2 s t (hs s (by simp)) (hs t (by simp)) A c w hr hD
  · have hB : rangeD l = .error 3 := by
      rcases l with _ | ⟨a, _ | ⟨b, _ | ⟨d, r⟩⟩⟩
      · rfl
      · rfl
      · exact absurd ⟨a, b, rfl⟩ h1
      · rfl
    have hE : (((l.length : Int) != 2)) = true := by
      rcases l with _ | ⟨a, _ | ⟨b, _ | ⟨d, r⟩⟩⟩
      · rfl
      · rfl
      · exact absurd ⟨a, b, rfl⟩ h1
      · simp only [List.length_cons, bne_iff_ne, ne_eq]; omega
    rw [hB]
    clear hB h1 hs hr hl
    generalize l.length = n at hE
    go_enter Tryz.func60, Tryz.ntmps60
    go_wp2_with (go_at_call 14; refine (w_dfailsN 3 (by decide) _).mono ?_; rintro e w1 ⟨rfl, rfl⟩)
    exact ⟨rfl, ⟨rfl, by decide⟩, Below.refl _ _⟩
end Go.Proofs.YtemjoiaapfhenaaGreatDoor
end
