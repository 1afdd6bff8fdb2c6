/- Walks: rows: made; one thing touched, dropped; how much is used. -/
import Derived.Test.YtbchkaoocobpfaaWRw
namespace Go.Larder
theorem used_take {k : List UInt8} {l r : List Thg} {t : Thg} (h : takeR k l = some (t, r)) : usedR l = t.2 + usedR r := by
  obtain ⟨a, b, rfl, rfl, _, _⟩ := takeR_some h
  simp only [usedR_append, usedR_cons]
  omega
end Go.Larder
namespace Go.Proofs.Ytbchkaoocobpfaa
open Go.RowKit Go.Larder
set_option linter.unusedVariables false
set_option linter.unusedSimpArgs false
/-- a row -/
structure RowAt (w : World) (b gc gm room : Nat) (L : List Lnk) : Prop where
  box : BoxAt w b 67 [.int .i64 (room : Int), .int .i64 (usedR (thsL L) : Int), pg gc]
  ch : ChAt w gc gm L
  le : usedR (thsL L) ≤ room
  rm : room ≤ 1000000
  ps : ∀ t ∈ thsL L, 1 ≤ t.2
/-- the blocks of a row -/
def FRow (b gc gm : Nat) (L : List Lnk) (j : Nat) : Prop := j = b ∨ FC gc gm L j
theorem ChAt.ne {w : World} {gc gm b : Nat} {L : List Lnk} {cs : List Value} (h : ChAt w gc gm L) (hb : BoxAt w b 67 cs) : ¬ FC gc gm L b := by
  obtain ⟨nx, pv, hl, hc, hm⟩ := h
  have hcell : ∀ {g T : Nat} {ds : List Value}, BoxAt w g T ds → T ≠ 67 → ¬ b = g := by
    intro g T ds h1 h2 e
    subst e
    unfold BoxAt at h1 hb
    rw [h1] at hb
    injection hb with hb
    injection hb with _ hb
    exact h2 hb
  rintro (e | e | e)
  · exact hcell hl.root (by decide) e
  · exact hm.box_ne hb e.symm
  · obtain ⟨t, ht, e⟩ := mem_bks e
    exact hcell (hl.link t ht) (by decide) e.symm
theorem ChAt.lt {w : World} {gc gm j : Nat} {L : List Lnk} (h : ChAt w gc gm L) (hj : FC gc gm L j) : j < w.heap.size := by
  obtain ⟨nx, pv, hl, hc, hm⟩ := h
  rcases hj with rfl | rfl | hj
  · exact hl.lt (by simp)
  · exact hm.lt
  · exact hl.lt (List.mem_cons_of_mem _ hj)
theorem ChAt.but {w w' : World} {B : Nat → Prop} {gc gm : Nat} {L : List Lnk} (h : ChAt w gc gm L) (hs : SameBut B w w') (hB : ∀ j, FC gc gm L j → ¬ B j) : ChAt w' gc gm L := by
  obtain ⟨nx, pv, hl, hc, hm⟩ := h
  refine ⟨nx, pv, hl.but hs fun x hx => ?_, hc, hm.but hs (hB gm (.inr (.inl rfl)))⟩
  rcases List.mem_cons.1 hx with h | h
  · exact hB x (.inl h)
  · exact hB x (.inr (.inr h))
theorem RowAt.lt {w : World} {b gc gm room j : Nat} {L : List Lnk} (h : RowAt w b gc gm room L) (hj : FRow b gc gm L j) : j < w.heap.size := by
  rcases hj with rfl | hj
  · exact h.box.lt
  · exact h.ch.lt hj
theorem RowAt.but {w w' : World} {B : Nat → Prop} {b gc gm room : Nat} {L : List Lnk} (h : RowAt w b gc gm room L) (hs : SameBut B w w') (hB : ∀ j, FRow b gc gm L j → ¬ B j) : RowAt w' b gc gm room L :=
  ⟨hs.box h.box (hB b (.inl rfl)), h.ch.but hs (fun j hj => hB j (.inr hj)), h.le, h.rm, h.ps⟩
theorem RowAt.keep {w w' : World} {b gc gm room : Nat} {L : List Lnk} (h : RowAt w b gc gm room L) (hb : Below w.heap.size w w') : RowAt w' b gc gm room L :=
  h.but (Larder.Below.same hb) (fun j hj => by have := h.lt hj; show ¬ w.heap.size ≤ j; omega)
/-- what drop leaves -/
def DropP (w : World) (b gc gm room : Nat) (L : List Lnk) (k : List UInt8) (e : Ending) (w' : World) : Prop :=
  (takeR k (thsL L) = none ∧ e = .returned (.int .i64 4) ∧ w' = w) ∨
  (∃ a g s c, L = a ++ (g, k, s) :: c ∧ takeR k (thsL L) = some ((k, s), thsL (a ++ c)) ∧ e = .returned (.int .i64 0) ∧ RowAt w' b gc gm room (a ++ c) ∧ SameBut (FRow b gc gm L) w w' ∧
    ∃ p, BoxAt w' g 108 [S k, .int .i64 (s : Int), pg p, pg (hd1 gc (bksL c))])
set_option maxHeartbeats 2000000 in
theorem w_RNew (room : Int) (hr : -9223372036854775808 ≤ room ∧ room ≤ 9223372036854775807) (w : World) : Calls Try.prog 6 #[.int .i64 room] w fun e w' =>
    (¬ (1 ≤ room ∧ room ≤ 1000000) ∧ e = .returned (.tuple #[.pointer none, .int .i64 1]) ∧ Below w.heap.size w w') ∨
    (∃ n : Nat, room = n ∧ 1 ≤ n ∧ ∃ b gc gm, e = .returned (.tuple #[pg b, .int .i64 0]) ∧ RowAt w' b gc gm n [] ∧ (∀ j, FRow b gc gm [] j → w.heap.size ≤ j) ∧ Below w.heap.size w w') := by
  have hc := w_newChain w
  by_cases h1 : room < 1
  · go_enter Try.func6, Try.ntmps6
    go_wp2_with fail
    go_ret2
    refine .inl ?_
    first | exact ⟨by omega, rfl, Below.refl _ _⟩ | exact ⟨rfl, Below.refl _ _⟩ | exact Below.refl _ _
  · by_cases h2 : 1000000 < room
    · go_enter Try.func6, Try.ntmps6
      go_wp2_with fail
      go_ret2
      refine .inl ?_
      first | exact ⟨by omega, rfl, Below.refl _ _⟩ | exact ⟨rfl, Below.refl _ _⟩ | exact Below.refl _ _
    · obtain ⟨n, rfl⟩ : ∃ n : Nat, room = n := ⟨room.toNat, by omega⟩
      go_enter Try.func6, Try.ntmps6
      go_wp2_with (go_at_call 29; refine hc.mono ?_; rintro e w1 ⟨rfl, hch, hb⟩)
      go_ret2
      have hb2 := BoxAt.new w1 [.int .i64 (n : Int), .int .i64 0, pg (w.heap.size + 1)] 67
      have hBA := (Below.refl w1.heap.size w1).alloc (Nat.le_refl _) (.cells [.int .i64 (n : Int), .int .i64 0, pg (w.heap.size + 1)].toArray 67)
      refine .inr ⟨n, rfl, by omega, _, _, _, rfl, ⟨hb2, hch.but (Larder.Below.same hBA) (fun j hj => by have := hch.lt hj; show ¬ w1.heap.size ≤ j; omega), by simp [usedR, thsL], by omega, by simp [thsL]⟩, ?_, hb.trans (hBA.mono hb.size)⟩
      have := hb.size
      rintro j (rfl | rfl | rfl | hj)
      · exact this
      · omega
      · omega
      · cases hj
set_option maxHeartbeats 2000000 in
theorem w_RDrop (b gc gm room : Nat) (L : List Lnk) (k : List UInt8) (w : World) (h : RowAt w b gc gm room L) :
    Calls Try.prog 14 #[pg b, S k] w (DropP w b gc gm room L k) := by
  have ht := w_take gc gm L k w h.ch
  have c2 := h.box.cell (j := 2) rfl
  go_enter Try.func14, Try.ntmps14
  go_wp2_with fail
  refine Calls.mono ht ?_
  rintro e w1 (⟨hn, rfl, rfl⟩ | ⟨a, g, s, c, hL, htk, rfl, hch, hs, p, hbx⟩)
  · go_wp2
    go_ret
    exact .inl ⟨hn, rfl, rfl⟩
  · have hbne := h.ch.ne h.box
    have hbx1 := hs.box h.box hbne
    have c1 := hbx1.cell (j := 1) rfl
    have f1 := hbx1.free 1
    have hu := used_take htk
    have hle := h.le
    have hrm := h.rm
    simp only at hu
    have hgL : FC gc gm L g := .inr (.inr (by rw [hL, bksL_app]; simp [bksL]))
    have hFa : ∀ j, FC gc gm (a ++ c) j → FC gc gm L j := fun j hj => by
      rcases hj with h | h | h
      · exact .inl h
      · exact .inr (.inl h)
      · refine .inr (.inr ?_)
        rw [hL]
        simp only [bksL_app, List.mem_append] at h ⊢
        rcases h with h | h
        · exact .inl h
        · exact .inr (List.mem_cons_of_mem _ h)
    have HL := Lib.hid hL
    obtain ⟨u, hu1⟩ : ∃ u, u = usedR (thsL (a ++ c)) := ⟨_, rfl⟩
    rw [← hu1] at hu
    have hbx2 := hbx1.set 1 (.int .i64 (u : Int))
    have hch2 := hch.but ((SameBut.refl (B := fun j => j = b) w1).setCell ⟨b, 1, none⟩ (.int .i64 (u : Int)) (fun _ => rfl)) (fun j hj e => hbne (by rw [← e]; exact hFa j hj))
    have hbl := hbx.setOther ⟨b, 1, none⟩ (fun (e : g = b) => hbne (by rw [← e]; exact hgL)) (.int .i64 (u : Int))
    have hs2 : SameBut (FRow b gc gm L) w (w1.setCell ⟨b, 1, none⟩ (.int .i64 (u : Int))) := (hs.mono (fun j _ hj => .inr hj)).setCell _ _ (fun _ => .inl rfl)
    rw [hu] at c1 hle
    have Hu := Lib.hid hu1
    clear hL hbx hbx1 hu1 hu
    go_wp2
    have hE : ((s : Int) + (u : Int) - (s : Int)) = (u : Int) := by omega
    rw [hE]
    go_ret
    refine .inr ⟨a, g, s, c, HL.out, htk, rfl, ⟨?_, hch2, by rw [← Hu.out]; omega, hrm, fun t ht => h.ps t (by rw [HL.out]; simp only [thsL, List.map_append, List.map_cons, List.mem_append, List.mem_cons] at ht ⊢; rcases ht with ht | ht; exact .inl ht; exact .inr (.inr ht))⟩, hs2, p, hbl⟩
    rw [← Hu.out]
    exact hbx2
set_option maxHeartbeats 2000000 in
theorem w_RUsed (b gc gm room : Nat) (L : List Lnk) (w : World) (h : RowAt w b gc gm room L) :
    Calls Try.prog 18 #[pg b] w fun e w' => e = .returned (.int .i64 (usedR (thsL L) : Int)) ∧ w' = w := by
  have c1 := h.box.cell (j := 1) rfl
  go_enter Try.func18, Try.ntmps18
  go_wp2_with fail
  go_ret
  exact ⟨rfl, rfl⟩
/-- the things of a row when one of them was touched -/
def touchR (k : List UInt8) (l : List Thg) : List Thg := match takeR k l with | some (t, r) => r ++ [t] | none => l
/-- what touch leaves -/
def RowP (w : World) (b gc gm room : Nat) (L : List Lnk) (l' : List Thg) (w' : World) : Prop :=
  ∃ L', RowAt w' b gc gm room L' ∧ thsL L' = l' ∧ SameBut (FRow b gc gm L) w w' ∧ ∀ j, FRow b gc gm L' j → FRow b gc gm L j ∨ w.heap.size ≤ j
theorem take_keys {k : List UInt8} {l r : List Thg} {t : Thg} (hn : (keysR l).Nodup) (h : takeR k l = some (t, r)) : k ∉ keysR r := by
  obtain ⟨a, b, rfl, rfl, rfl, h2⟩ := takeR_some h
  simp only [keysR, List.map_append, List.map_cons, List.nodup_append, List.nodup_cons, List.mem_cons] at hn
  obtain ⟨_, ⟨h3, _⟩, h4⟩ := hn
  simp only [keysR, List.map_append, List.mem_append, not_or]
  refine ⟨fun h5 => ?_, h3⟩
  exact h4 _ h5 _ (.inl rfl) rfl
theorem RowAt.keys {w : World} {b gc gm room : Nat} {L : List Lnk} (h : RowAt w b gc gm room L) : (keysR (thsL L)).Nodup := by
  obtain ⟨nx, pv, hl, hc, hm⟩ := h.ch
  have := hm.nodup
  have e : keysM (mapL L) = keysR (thsL L) := by simp [keysM, mapL, keysR, thsL]
  rwa [e] at this
set_option maxHeartbeats 2000000 in
theorem w_RTouch (b gc gm room : Nat) (L : List Lnk) (k : List UInt8) (w : World) (h : RowAt w b gc gm room L) :
    Calls Try.prog 12 #[pg b, S k] w fun e w' => e = .returned (.bool (takeR k (thsL L)).isSome) ∧ RowP w b gc gm room L (touchR k (thsL L)) w' := by
  have ht := w_take gc gm L k w h.ch
  have c2 := h.box.cell (j := 2) rfl
  have hkn := h.keys
  go_enter Try.func12, Try.ntmps12
  go_wp2_with fail
  refine Calls.mono ht ?_
  rintro e w1 (⟨hn, rfl, rfl⟩ | ⟨a, g, s, c, hL, htk, rfl, hch, hs, p, hbx⟩)
  · go_wp2
    go_ret
    refine ⟨by rw [hn]; rfl, L, h, by rw [touchR, hn], SameBut.refl _, fun j hj => .inl hj⟩
  · have hbne := h.ch.ne h.box
    have hbx1 := hs.box h.box hbne
    have d2 := hbx1.cell (j := 2) rfl
    have hk2 := take_keys hkn htk
    have hpu := w_push gc gm (a ++ c) k s w1 hch hk2
    have HL := Lib.hid hL
    have HT := Lib.hid htk
    clear hL hbx htk
    go_wp2_with fail
    refine Calls.mono hpu ?_
    rintro e w2 ⟨rfl, ⟨g', hch2, hg'⟩, hs2⟩
    go_wp2
    go_ret
    have hFa : ∀ j, FC gc gm (a ++ c) j → FC gc gm L j := fun j hj => by
      rcases hj with h | h | h
      · exact .inl h
      · exact .inr (.inl h)
      · refine .inr (.inr ?_)
        rw [HL.out]
        simp only [bksL_app, List.mem_append] at h ⊢
        rcases h with h | h
        · exact .inl h
        · exact .inr (List.mem_cons_of_mem _ h)
    have hth : thsL (a ++ c ++ [(g', k, s)]) = thsL (a ++ c) ++ [(k, s)] := by simp [thsL]
    have hus : usedR (thsL (a ++ c ++ [(g', k, s)])) = usedR (thsL L) := by
      rw [hth, usedR_append, used_take HT.out]; simp [usedR]; omega
    refine ⟨by rw [HT.out]; rfl, a ++ c ++ [(g', k, s)], ⟨?_, hch2, by rw [hus]; exact h.le, h.rm, fun t ht => ?_⟩, by rw [hth, touchR, HT.out], ((hs.trans hs2 (fun j _ hj => hFa j hj)).mono fun j _ hj => .inr hj), ?_⟩
    · rw [hus]; exact hs2.box hbx1 (fun hj => hbne (hFa b hj))
    · rw [hth] at ht
      refine h.ps t ?_
      rw [HL.out]
      simp only [thsL, List.map_append, List.map_cons, List.mem_append, List.mem_cons, List.not_mem_nil, or_false] at ht ⊢
      rcases ht with (ht | ht) | ht
      · exact .inl ht
      · exact .inr (.inr ht)
      · exact .inr (.inl ht)
    · rintro j (rfl | rfl | rfl | hj)
      · exact .inl (.inl rfl)
      · exact .inl (.inr (.inl rfl))
      · exact .inl (.inr (.inr (.inl rfl)))
      · rw [bksL_app, List.mem_append] at hj
        rcases hj with hj | hj
        · exact .inl (.inr (hFa j (.inr (.inr hj))))
        · have : j = g' := by simpa [bksL] using hj
          have := hs.size
          right; omega
theorem len_used {l : List Thg} (h : ∀ t ∈ l, 1 ≤ t.2) : l.length ≤ usedR l := by
  induction l with
  | nil => simp
  | cons t r ih =>
    rw [usedR_cons, List.length_cons]
    have := h t (by simp)
    have := ih fun x hx => h x (by simp [hx])
    omega
theorem ChAt.root {w : World} {gc gm : Nat} {L : List Lnk} (h : ChAt w gc gm L) : ∃ a b c d, BoxAt w gc 110 [a, b, c, pg (hd1 gc (bksL L)), d] := by
  obtain ⟨nx, pv, hl, hc, hm⟩ := h
  have := hl.root
  rw [hc.first] at this
  exact ⟨_, _, _, _, this⟩
theorem ChAt.at_ {w : World} {gc gm g s : Nat} {k : List UInt8} {a b : List Lnk} (h : ChAt w gc gm (a ++ (g, k, s) :: b)) :
    (∃ p, BoxAt w g 108 [S k, .int .i64 (s : Int), p, pg (hd1 gc (bksL b))]) ∧ ¬ g = gc := by
  obtain ⟨nx, pv, hl, hc, hm⟩ := h
  have hnd := hl.nd
  have e : bksL (a ++ (g, k, s) :: b) = bksL a ++ g :: bksL b := by simp [bksL]
  rw [e] at hc hnd
  have h1 := (hc.take hnd).2.2
  have h2 := hl.link (g, k, s) (by simp)
  simp only at h2
  rw [h1] at h2
  refine ⟨⟨_, h2⟩, fun e => ?_⟩
  subst e
  simp at hnd
end Go.Proofs.Ytbchkaoocobpfaa
