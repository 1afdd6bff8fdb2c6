/- Walks: the reference's books: a value set, deleted. -/
import Derived.Test.YtbchkaoocobpfaaWBr1
import Derived.Test.YtbchkaoocobpfaaAppF
namespace Go.Proofs.Ytbchkaoocobpfaa
open Go.RowKit Go.Larder
set_option linter.unusedVariables false
set_option linter.unusedSimpArgs false
variable {w w' : World} {c cap : Nat} {A : Option Addr} {L : List Ent}
def RAfter (w : World) (c : Nat) (A : Option Addr) (L : List Ent) (w' : World) : Prop :=
  ∃ A' cap', RefB w' c A' cap' L ∧ (∀ j, blkOf A' = some j → blkOf A = some j ∨ w.heap.size ≤ j) ∧ SameBut (FR c A) w w'
theorem RAfter.refl (h : RefB w c A cap L) : RAfter w c A L w := ⟨A, cap, h, fun _ h => .inl h, SameBut.refl _⟩
theorem RAfter.step {w1 : World} {L1 : List Ent} (hb : Below w.heap.size w w1) (h2 : RAfter w1 c A L1 w') : RAfter w c A L1 w' := by
  obtain ⟨A', cap', h, hn, hs⟩ := h2
  exact ⟨A', cap', h, fun j hj => (hn j hj).imp id (fun h0 => Nat.le_trans hb.size h0), ((SameBut.refl w).keep hb).trans hs (fun _ _ h => h)⟩
def setEL (L : List Ent) (k v : List UInt8) : Int := if k = [] ∨ 50 < k.length then 1 else if 900 < v.length then 2 else if getL L k = none ∧ (keysU L).length = 100 then 6 else 0
theorem setE_eq {m : Kv} (h : BookR m L) (k v : List UInt8) : setE m k v = setEL L k v := by unfold setE setEL; rw [h.get, h.count]
/-- a book's list and its block, when the list has grown -/
theorem refB_grown {w1 w2 : World} {g c' : Nat} {e : Ent} (h : RefB w1 c A cap L) (hown : OwnL encT w2 0 91 (some ⟨g, 0, none⟩) c' (L ++ [e])) (hg : A = some ⟨g, 0, none⟩ ∨ w1.heap.size < g) (hf : ∀ b, b < w1.heap.size → A ≠ some ⟨b, 0, none⟩ → w2.heap[b]? = w1.heap[b]?) (hb : Below 0 w1 w2) :
    BoxAt w2 c 54 [.slice A L.length cap] ∧ RAfter w1 c A (L ++ [e]) (w2.setCell ⟨c, 0, none⟩ (.slice (some ⟨g, 0, none⟩) (L.length + 1) c')) := by
  have hA : ∀ a, A = some a → a.block ≠ c := h.apart
  have hbx : BoxAt w2 c 54 [.slice A L.length cap] := (hf c h.box.lt fun h0 => hA _ h0 rfl).trans h.box
  refine ⟨hbx, some ⟨g, 0, none⟩, c', ⟨?_, ?_⟩, ?_, ?_⟩
  · have := hbx.set 0 (.slice (some ⟨g, 0, none⟩) (L.length + 1) c')
    rw [List.length_append]
    exact this
  · refine hown.keep fun a ha => heap_setCell_other _ _ _ _ ?_
    injection ha with ha
    subst ha
    show g ≠ c
    rcases hg with h0 | h0
    · exact hA _ h0
    · have := h.box.lt; omega
  · intro j hj
    simp only [blkOf, Option.map_some, Option.some.injEq] at hj
    subst hj
    rcases hg with h0 | h0
    · left; rw [h0]; rfl
    · right; omega
  · refine SameBut.setCell (p := ⟨c, 0, none⟩) ⟨hb.os, hb.tape, hb.output, hb.size, fun j hj hn => hf j hj fun h0 => hn (.inr (by rw [h0]; rfl))⟩ _ (fun _ => .inl rfl)
set_option maxHeartbeats 1000000 in
set_option maxRecDepth 100000 in
theorem w_RSet_ok (k x : List UInt8) (hl : L.length ≤ 3000000) (ho : ∀ e ∈ L, OkEnt e) (hk : (keysU L).length ≤ 100) (he : setEL L k x = 0) (h : RefB w c A cap L) :
    Calls Try.prog 37 #[.pointer (some ⟨c, 0, none⟩), S k, S x] w fun e w' => e = .returned (.int .i64 0) ∧ RAfter w c A (L ++ [(true, k, x)]) w' := by
  have h1 : ¬ (k = [] ∨ 50 < k.length) := by intro h0; simp [setEL, h0] at he
  have h2 : ¬ 900 < x.length := by intro h0; simp [setEL, h1, h0] at he
  have h3 : ¬ (getL L k = none ∧ (keysU L).length = 100) := by intro h0; simp [setEL, h1, h2, h0] at he
  have hk0 : k ≠ [] := fun h0 => h1 (.inl h0)
  have hk2 : 0 < k.length := List.length_pos_iff.2 hk0
  have hxI : ¬ (900 : Int) < (x.length : Int) := by omega
  have ho1 : (decide ((k.length : Int) < 1) || decide (50 < (k.length : Int))) = false := by simp; omega
  have hout := fun W => w_outside (k.length : Int) 1 50 W
  rw [ho1] at hout
  have hget := w_RGet k (by omega) ho h
  have hks : ∀ W, Below w.heap.size w W → Calls Try.prog 26 #[.pointer (some ⟨c, 0, none⟩)] W (KeysR W (sortL (keysU L))) := fun W hb => w_RKeys (by omega) ho hk (h.keep hb)
  have hsl : (sortL (keysU L)).length = (keysU L).length := sortL_len _
  generalize sortL (keysU L) = ks at *
  have Hsl := Lib.hid hsl
  have Ho := Lib.hid ho
  have Hks := Lib.hid hks
  clear h1 h2 he hsl ho ho1 hk0 hks
  have hB := fun (W : World) (hb : Below w.heap.size w W) => h.keep hb
  have HB := Lib.hid hB
  clear hB
  cases hg : getL L k with
  | some y =>
    rw [hg] at hget
    clear hg h3 h
    go_enter Try.func37, Try.ntmps37
    go_wp2_with fail
    refine Calls.mono (hout _) ?_
    rintro e w1 ⟨rfl, rfl⟩
    go_wp2_with fail
    refine Calls.mono hget ?_
    rintro e w2 ⟨rfl, hb2⟩
    have hr2 := HB.out w2 hb2
    have c2 := hr2.box.cell (j := 0) rfl
    go_wp2_with (at_builtin
                 refine wpList_appF encT sl_T [(true, k, x)] rfl _ _ rfl (by rfl) hr2.own #[S [83], S k, S x] rfl 0 rfl rfl (by omega) (by simp only [maxLen]; omega) (Nat.zero_le _) ?_
                 intro g4 c4 w4 ho4 hgo4 hf4 hb4
                 obtain ⟨hbx4, hfin⟩ := refB_grown hr2 ho4 hgo4 hf4 hb4
                 have f4 := hbx4.free 0
                 have d4 := hbx4.cell (j := 0) rfl)
    have hfin2 := RAfter.step hb2 hfin
    clear hfin hbx4 ho4 hf4 hb4 hgo4 hr2
    try go_wp2_with fail
    go_ret
    exact ⟨rfl, hfin2⟩
  | none =>
    rw [hg] at hget
    have hn : (keysU L).length ≠ 100 := fun h0 => h3 ⟨hg, h0⟩
    have hmI : ((ks.length : Int) == 100) = false := by simp; rw [Hsl.out]; omega
    clear hg h3 h hn
    go_enter Try.func37, Try.ntmps37
    go_wp2_with fail
    refine Calls.mono (hout _) ?_
    rintro e w1 ⟨rfl, rfl⟩
    go_wp2_with fail
    refine Calls.mono hget ?_
    rintro e w2 ⟨rfl, hb2⟩
    go_wp2_with fail
    refine Calls.mono (Hks.out w2 hb2) ?_
    rintro e w3 hp
    obtain ⟨⟨A3, c3, rfl, _⟩, hb3⟩ := hp
    have hb23 := hb2.trans (hb3.mono hb2.size)
    have hr2 := HB.out w3 hb23
    have c2 := hr2.box.cell (j := 0) rfl
    go_wp2_with (at_builtin
                 refine wpList_appF encT sl_T [(true, k, x)] rfl _ _ rfl (by rfl) hr2.own #[S [83], S k, S x] rfl 0 rfl rfl (by omega) (by simp only [maxLen]; omega) (Nat.zero_le _) ?_
                 intro g4 c4 w4 ho4 hgo4 hf4 hb4
                 obtain ⟨hbx4, hfin⟩ := refB_grown hr2 ho4 hgo4 hf4 hb4
                 have f4 := hbx4.free 0
                 have d4 := hbx4.cell (j := 0) rfl)
    have hfin2 := RAfter.step hb23 hfin
    clear hfin hbx4 ho4 hf4 hb4 hgo4 hr2
    try go_wp2_with fail
    go_ret
    exact ⟨rfl, hfin2⟩
set_option maxHeartbeats 1000000 in
set_option maxRecDepth 100000 in
theorem w_RSet_no (k x : List UInt8) (hkl : k.length ≤ 4000000) (hxl : x.length ≤ 4000000) (hl : L.length ≤ 3000000) (ho : ∀ e ∈ L, OkEnt e) (hk : (keysU L).length ≤ 100) (he : setEL L k x ≠ 0) (h : RefB w c A cap L) :
    Calls Try.prog 37 #[.pointer (some ⟨c, 0, none⟩), S k, S x] w fun e w' => e = .returned (.int .i64 (setEL L k x)) ∧ Below w.heap.size w w' := by
  have hout := fun W => w_outside (k.length : Int) 1 50 W
  by_cases h1 : k = [] ∨ 50 < k.length
  · have hr : setEL L k x = 1 := by simp [setEL, h1]
    rw [hr]
    have ho1 : (decide ((k.length : Int) < 1) || decide (50 < (k.length : Int))) = true := by
      rcases h1 with rfl | h1
      · rfl
      · simp; omega
    rw [ho1] at hout
    clear he hr h1 ho1 ho
    go_enter Try.func37, Try.ntmps37
    go_wp2_with fail
    refine Calls.mono (hout _) ?_
    rintro e w1 ⟨rfl, rfl⟩
    go_wp2_with fail
    go_ret
    exact ⟨rfl, Below.refl _ _⟩
  · have hk0 : k ≠ [] := fun h0 => h1 (.inl h0)
    have hk2 : 0 < k.length := List.length_pos_iff.2 hk0
    have ho1 : (decide ((k.length : Int) < 1) || decide (50 < (k.length : Int))) = false := by simp; omega
    rw [ho1] at hout
    by_cases h2 : 900 < x.length
    · have hr : setEL L k x = 2 := by simp [setEL, h1, h2]
      rw [hr]
      have h2I : (900 : Int) < (x.length : Int) := by omega
      clear he hr h1 ho1 ho hk0
      go_enter Try.func37, Try.ntmps37
      go_wp2_with fail
      refine Calls.mono (hout _) ?_
      rintro e w1 ⟨rfl, rfl⟩
      go_wp2_with fail
      go_ret
      exact ⟨rfl, Below.refl _ _⟩
    · have h3 : getL L k = none ∧ (keysU L).length = 100 := Classical.byContradiction fun h3 => he (by simp only [setEL]; rw [if_neg h1, if_neg h2, if_neg h3])
      have hr : setEL L k x = 6 := by simp [setEL, h1, h2, h3]
      rw [hr]
      have h2I : ¬ (900 : Int) < (x.length : Int) := by omega
      have hget := w_RGet k (by omega) ho h
      rw [h3.1] at hget
      have hks : ∀ W, Below w.heap.size w W → Calls Try.prog 26 #[.pointer (some ⟨c, 0, none⟩)] W (KeysR W (sortL (keysU L))) := fun W hb => w_RKeys (by omega) ho hk (h.keep hb)
      have hmI : (((sortL (keysU L)).length : Int) == 100) = true := by rw [sortL_len, h3.2]; rfl
      generalize sortL (keysU L) = ks at *
      have Hks := Lib.hid hks
      clear he hr h1 ho1 ho hk0 h3 hks
      go_enter Try.func37, Try.ntmps37
      go_wp2_with fail
      refine Calls.mono (hout _) ?_
      rintro e w1 ⟨rfl, rfl⟩
      go_wp2_with fail
      refine Calls.mono hget ?_
      rintro e w2 ⟨rfl, hb2⟩
      go_wp2_with fail
      refine Calls.mono (Hks.out w2 hb2) ?_
      rintro e w3 hp
      obtain ⟨⟨A3, c3, rfl, _⟩, hb3⟩ := hp
      have hb23 := hb2.trans (hb3.mono hb2.size)
      go_wp2_with fail
      go_ret
      exact ⟨rfl, hb23⟩
set_option maxHeartbeats 1000000 in
set_option maxRecDepth 100000 in
theorem w_RDel_ok (k y : List UInt8) (hl : L.length ≤ 3000000) (ho : ∀ e ∈ L, OkEnt e) (hg : getL L k = some y) (h : RefB w c A cap L) :
    Calls Try.prog 39 #[.pointer (some ⟨c, 0, none⟩), S k] w fun e w' => e = .returned (.int .i64 0) ∧ RAfter w c A (L ++ [(false, k, [])]) w' := by
  have hget := w_RGet k (by omega) ho h
  rw [hg] at hget
  have hB := fun (W : World) (hb : Below w.heap.size w W) => h.keep hb
  have HB := Lib.hid hB
  clear hB ho hg h
  go_enter Try.func39, Try.ntmps39
  go_wp2_with fail
  refine Calls.mono hget ?_
  rintro e w2 ⟨rfl, hb2⟩
  have hr2 := HB.out w2 hb2
  have c2 := hr2.box.cell (j := 0) rfl
  go_wp2_with (at_builtin
               refine wpList_appF encT sl_T [(false, k, [])] rfl _ _ rfl (by rfl) hr2.own #[S [68], S k, S []] rfl 0 rfl rfl (by omega) (by simp only [maxLen]; omega) (Nat.zero_le _) ?_
               intro g4 c4 w4 ho4 hgo4 hf4 hb4
               obtain ⟨hbx4, hfin⟩ := refB_grown hr2 ho4 hgo4 hf4 hb4
               have f4 := hbx4.free 0
               have d4 := hbx4.cell (j := 0) rfl)
  have hfin2 := RAfter.step hb2 hfin
  clear hfin hbx4 ho4 hf4 hb4 hgo4 hr2
  try go_wp2_with fail
  go_ret
  exact ⟨rfl, hfin2⟩
theorem w_RDel_no (k : List UInt8) (hl : L.length ≤ 3000000) (ho : ∀ e ∈ L, OkEnt e) (hg : getL L k = none) (h : RefB w c A cap L) :
    Calls Try.prog 39 #[.pointer (some ⟨c, 0, none⟩), S k] w fun e w' => e = .returned (.int .i64 4) ∧ Below w.heap.size w w' := by
  have hget := w_RGet k (by omega) ho h
  rw [hg] at hget
  clear ho hg h
  go_enter Try.func39, Try.ntmps39
  go_wp2_with fail
  refine Calls.mono hget ?_
  rintro e w2 ⟨rfl, hb2⟩
  go_wp2_with fail
  go_ret
  exact ⟨rfl, hb2⟩
end Go.Proofs.Ytbchkaoocobpfaa
