/- Walks: the reference's rows: one dropped, touched, put. -/
import Derived.Test.YtbchkaoocobpfaaWRr1
namespace Go.Proofs.Ytbchkaoocobpfaa
open Go.RowKit Go.Larder
set_option linter.unusedVariables false
set_option linter.unusedSimpArgs false
variable {w w' : World} {c room cap : Nat} {A : Option Addr} {l : List Thg}
/-- the list lies where it lay, or in a new row -/
def NewA (w : World) (A A' : Option Addr) : Prop := ∀ a', A' = some a' → (∃ a, A = some a ∧ a'.block = a.block) ∨ w.heap.size ≤ a'.block
/-- what a call leaves of the row -/
def RefP (w : World) (c room : Nat) (A : Option Addr) (l' : List Thg) (w' : World) : Prop :=
  ∃ A' cap', RefR w' c room A' cap' l' ∧ NewA w A A' ∧ SameBut (fun j => j = c) w w'
theorem RefP.keep {w2 : World} (h : RefP w c room A l w') (hc : c < w.heap.size) (hb : Below w'.heap.size w' w2) : RefP w c room A l w2 := by
  obtain ⟨A', cap', h1, h2, h3⟩ := h
  exact ⟨A', cap', h1.keep hb, h2, h3.keep hb⟩
theorem used_takeR {k : List UInt8} {l r : List Thg} {t : Thg} (h : takeR k l = some (t, r)) : usedR l = t.2 + usedR r := by
  obtain ⟨a, b, rfl, rfl, _, _⟩ := takeR_some h
  simp only [usedR_append, usedR_cons]
  omega
theorem used_dropR (k : List UInt8) (l : List Thg) : usedR (dropR k l) ≤ usedR l := by
  unfold dropR
  cases h : takeR k l with
  | none => exact Nat.le_refl _
  | some p =>
    obtain ⟨t, r⟩ := p
    obtain ⟨a, b, rfl, rfl, _, _⟩ := takeR_some h
    show usedR (a ++ b) ≤ _
    simp only [usedR_append, usedR_cons]
    omega
theorem mem_dropR {k : List UInt8} {l : List Thg} {t : Thg} (h : t ∈ dropR k l) : t ∈ l := by
  unfold dropR at h
  cases h2 : takeR k l with
  | none => rw [h2] at h; exact h
  | some p =>
    obtain ⟨x, r⟩ := p
    rw [h2] at h
    obtain ⟨a, b, rfl, rfl, _, _⟩ := takeR_some h2
    rcases List.mem_append.1 h with h | h
    · exact List.mem_append_left _ h
    · exact List.mem_append_right _ (List.mem_cons_of_mem _ h)
theorem TakeRP.any {k : List UInt8} {e : Ending} (h : TakeRP w c room l k e w') (hr : RefR w c room A cap l) : ∃ k1 s1 bb, e = .returned (.tuple #[.agg #[S k1, .int .i64 (s1 : Int)], .bool bb]) ∧ bb = (takeR k l).isSome ∧ RefP w c room A (dropR k l) w' := by
  have hclt := hr.box.lt
  rcases h with ⟨hn, rfl, hb⟩ | ⟨t, r, A', cap', ht, rfl, hbx, how, hs⟩
  · refine ⟨[], 0, false, rfl, by rw [hn]; rfl, A, cap, ?_, fun a ha => .inl ⟨a, ha, rfl⟩, (Larder.Below.same hb).mono fun j hj h => absurd h (by omega)⟩
    have : dropR k l = l := by rw [dropR, hn]; rfl
    rw [this]
    exact hr.keep hb
  · have hd : dropR k l = r := by rw [dropR, ht]; rfl
    refine ⟨t.1, t.2, true, rfl, by rw [ht]; rfl, A', cap', ⟨?_, ?_, ?_, ?_, Nat.le_trans (used_dropR k l) hr.le, hr.rm, fun t ht => hr.ps t (mem_dropR ht), fun a ha => (how.lt a ha).2⟩, fun a ha => .inr (how.lt a ha).1, hs⟩
    · rw [hd]; exact hbx
    · rw [hd]; exact how.read
    · rw [hd]; exact how.le_cap
    · intro a ha
      have := (how.lt a ha).1
      omega
set_option maxHeartbeats 4000000 in
theorem w_RefDrop (k : List UInt8) (h : RefR w c room A cap l) :
    Calls Try.prog 15 #[.pointer (some ⟨c, 0, none⟩), S k] w fun e w' => e = .returned (.int .i64 (if (takeR k l).isSome then 0 else 4)) ∧ RefP w c room A (dropR k l) w' := by
  have ht := w_RefTake k h
  have hclt := h.box.lt
  obtain ⟨q, hq⟩ : ∃ q : Int, q = if (takeR k l).isSome then 0 else 4 := ⟨_, rfl⟩
  rw [← hq]
  have Hq := Lib.hid hq
  clear hq
  go_enter Try.func15, Try.ntmps15
  go_wp2_with fail
  refine Calls.mono ht ?_
  intro e w1 htk
  obtain ⟨k1, s1, bb, rfl, hbb, hrp⟩ := htk.any h
  have hB : Below w1.heap.size w1 (w1.alloc (.cells #[S k1, .int .i64 (s1 : Int)] 76)) := (Below.refl _ _).alloc (Nat.le_refl _) _
  have Hbb := Lib.hid hbb
  clear hbb htk
  cases bb
  · go_wp2_with fail
    go_ret
    exact ⟨by rw [Hq.out, ← Hbb.out]; rfl, hrp.keep hclt hB⟩
  · go_wp2_with fail
    go_ret
    exact ⟨by rw [Hq.out, ← Hbb.out]; rfl, hrp.keep hclt hB⟩
def touchRR (k : List UInt8) (l : List Thg) : List Thg := match takeR k l with | some (t, r) => r ++ [t] | none => l
set_option maxHeartbeats 8000000 in
set_option maxRecDepth 100000 in
theorem w_RefTouch (k : List UInt8) (h : RefR w c room A cap l) :
    Calls Try.prog 13 #[.pointer (some ⟨c, 0, none⟩), S k] w fun e w' => e = .returned (.bool (takeR k l).isSome) ∧ RefP w c room A (touchRR k l) w' := by
  have ht := w_RefTake k h
  have hclt := h.box.lt
  have hl := h.len
  go_enter Try.func13, Try.ntmps13
  go_wp2_with fail
  refine Calls.mono ht ?_
  rintro e w1 (⟨hn, rfl, hb⟩ | ⟨t, r, A5, c5, htk, rfl, hbx, how, hs⟩)
  · have hB : Below w1.heap.size w1 (w1.alloc (.cells #[S [], .int .i64 0] 76)) := (Below.refl _ _).alloc (Nat.le_refl _) _
    go_wp2_with fail
    go_ret
    refine ⟨by rw [hn]; rfl, A, cap, ?_, fun a ha => .inl ⟨a, ha, rfl⟩, (Larder.Below.same (hb.trans (hB.mono hb.size))).mono fun j hj h => absurd h (by omega)⟩
    have : touchRR k l = l := by rw [touchRR, hn]
    rw [this]
    exact (h.keep hb).keep hB
  · obtain ⟨k1, s1⟩ := t
    simp only
    have hw1 := hs.size
    have hB : Below w1.heap.size w1 (w1.alloc (.cells #[S k1, .int .i64 (s1 : Int)] 76)) := (Below.refl _ _).alloc (Nat.le_refl _) _
    have bx5 := BoxAt.new w1 [S k1, .int .i64 (s1 : Int)] 76
    have hbx2 := hbx.keep hB
    have how2 := OwnL.alc how (.cells #[S k1, .int .i64 (s1 : Int)] 76)
    have hwa : (w1.alloc (.cells #[S k1, .int .i64 (s1 : Int)] 76)).heap.size = w1.heap.size + 1 := by simp
    have hlr : r.length ≤ 1000000 := by
      obtain ⟨a, b, h1, rfl, _, _⟩ := takeR_some htk
      have := congrArg List.length h1
      simp only [List.length_append, List.length_cons] at this ⊢
      omega
    have Htk := Lib.hid htk
    clear htk
    go_upto_region 2 with fail
    generalize w1.alloc (.cells #[S k1, .int .i64 (s1 : Int)] 76) = wa at *
    have a1 := hbx2.cell (j := 1) rfl
    have p0 := bx5.cell (j := 0) rfl
    have p1 := bx5.cell (j := 1) rfl
    go_wp2_with fail
    have hlit : ReadL encG (wa.alloc (.cells #[S k1, .int .i64 (s1 : Int)] 76)).drew (w1.heap.size + 1 + 1) (some ⟨w1.heap.size + 1, 0, none⟩) [(k1, s1)] := by
      have := ReadL.lit (E := encG) wa #[S k1, .int .i64 (s1 : Int)] 76 [(k1, s1)] rfl
      rw [hwa] at this
      exact this
    have a2 := (hbx2.alloc (.cells #[S k1, .int .i64 (s1 : Int)] 76)).cell (j := 1) rfl
    have hne5 : ∀ a, A5 = some a → a.block ≠ w1.heap.size := fun a ha => by have := (how.lt a ha).2; omega
    have hnec : ∀ a, A5 = some a → a.block ≠ c := fun a ha => by have := (how.lt a ha).1; omega
    refine wp_region_held_drew (S := (fun W => W.cell? ⟨w1.heap.size, 0, none⟩ = some (S k1) ∧ W.cell? ⟨w1.heap.size, 1, none⟩ = some (.int .i64 (s1 : Int)))) (by kernel_rfl) ⟨p0, p1⟩ (fun hHeld => ?_)
    refine wpAnyH_take (i := 0) (v := ?_) rfl (by kernel_rfl) (by kernel_rfl) (by kernel_rfl) (fun _ _ _ h => h) (Or.inl ⟨by rfl, by (intro W hSw; (try dsimp only at hSw); go_simp; try (with_reducible rfl))⟩) (by assumption) ?_
    try simp only [Act.put, List.setIfInBounds_toArray, List.set_cons_zero, List.set_cons_succ]
    refine wpAnyH_take (i := 1) (v := ?_) rfl (by kernel_rfl) (by kernel_rfl) (by kernel_rfl) (fun _ _ _ h => h) (Or.inl ⟨by rfl, by (intro W hSw; (try dsimp only at hSw); go_simp; try (with_reducible rfl))⟩) (by assumption) ?_
    try simp only [Act.put, List.setIfInBounds_toArray, List.set_cons_zero, List.set_cons_succ]
    refine wpAnyH_take (i := 2) (v := ?_) rfl (by kernel_rfl) (by kernel_rfl) (by kernel_rfl) (fun _ _ _ h => h) (Or.inl ⟨by rfl, by (intro W hSw; (try dsimp only at hSw); go_simp; try (with_reducible rfl))⟩) (by assumption) ?_
    try simp only [Act.put, List.setIfInBounds_toArray, List.set_cons_zero, List.set_cons_succ]
    refine wpAnyH_take (i := 3) (v := ?_) rfl (by kernel_rfl) (by kernel_rfl) (by kernel_rfl) (fun _ _ _ h => h) (Or.inl ⟨by rfl, by (intro W hSw; (try dsimp only at hSw); go_simp; try (with_reducible rfl))⟩) (by assumption) ?_
    try simp only [Act.put, List.setIfInBounds_toArray, List.set_cons_zero, List.set_cons_succ]
    refine wpAnyH_take (i := 5) (v := ?_) rfl (by kernel_rfl) (by kernel_rfl) (by kernel_rfl) (fun _ _ _ h => h) (Or.inl ⟨by rfl, by (intro W hSw; (try dsimp only at hSw); go_simp; try (with_reducible rfl))⟩) (by assumption) ?_
    try simp only [Act.put, List.setIfInBounds_toArray, List.set_cons_zero, List.set_cons_succ]
    refine wpAnyH_ready (rs := [4, 6]) (by kernel_rfl) (by simp) ?_
    refine AllReadyH.cons rfl (fun K hK => ?_) ?_
    · go_simp
      refine hK.out _ _ ⟨p0, p1⟩ (fun hHeld => ?_)
      clear hK K
      try simp only [Act.put, List.setIfInBounds_toArray, List.set_cons_zero, List.set_cons_succ]
      refine wpAnyH_ready (rs := [6]) (by kernel_rfl) (by simp) ?_
      refine AllReadyH.cons rfl (fun K hK => ?_) ?_
      · go_simp
        refine hK.out _ _ ⟨(bx5.alloc (.cells #[S k1, .int .i64 (s1 : Int)] 76)).cell (j := 0) rfl, (bx5.alloc (.cells #[S k1, .int .i64 (s1 : Int)] 76)).cell (j := 1) rfl⟩ (fun hHeld => ?_)
        clear hK K
        try simp only [Act.put, List.setIfInBounds_toArray, List.set_cons_zero, List.set_cons_succ]
        refine wpAnyH_ready (rs := [7]) (by kernel_rfl) (by simp) ?_
        refine AllReadyH.cons rfl (fun K hK => ?_) ?_
        · (refine step_app_at (l := r) (base := w.heap.size) encG sl_G [(k1, s1)] (by rfl) _ _ (by rfl) (by rfl) (by first | exact OwnL.alc (OwnL.drw how2) _ | exact OwnL.drw (OwnL.alc how2 _)) (by rfl) (by exact hlit) (by simp; omega) (by simp [maxLen]; omega) (by simp; omega) ?_; intro A6 c6 w3 hown6 hgr6 hform6 hb6; have bx5a : BoxAt (wa.alloc (.cells #[S k1, .int .i64 (s1 : Int)] 76)).drew w1.heap.size _ _ := BoxAt.drew (BoxAt.alloc bx5 _); have hbxa : BoxAt (wa.alloc (.cells #[S k1, .int .i64 (s1 : Int)] 76)).drew c _ _ := BoxAt.drew (BoxAt.alloc hbx2 _); have bx6 := BoxAt.grn bx5a hgr6 hne5; have hbx6 := BoxAt.grn hbxa hgr6 hnec; have b6 := hbx6.cell (j := 1) rfl; have f6 := hbx6.free 1)
          refine hK.out _ _ ⟨bx6.cell (j := 0) rfl, bx6.cell (j := 1) rfl⟩ (fun hHeld => ?_)
          clear hK K
          try simp only [Act.put, List.setIfInBounds_toArray, List.set_cons_zero, List.set_cons_succ]
          refine wpAnyH_take (i := 8) (v := ?_) rfl (by kernel_rfl) (by kernel_rfl) (by kernel_rfl) (fun _ _ _ h => h) (Or.inl ⟨by rfl, by (intro W hSw; (try dsimp only at hSw); go_simp; try (with_reducible rfl))⟩) (by assumption) ?_
          try simp only [Act.put, List.setIfInBounds_toArray, List.set_cons_zero, List.set_cons_succ]
          refine wpAnyH_take (i := 9) (v := ?_) rfl (by kernel_rfl) (by kernel_rfl) (by kernel_rfl) (fun _ _ _ h => h) (Or.inl ⟨by rfl, by (intro W hSw; (try dsimp only at hSw); go_simp; try (with_reducible rfl))⟩) (by assumption) ?_
          try simp only [Act.put, List.setIfInBounds_toArray, List.set_cons_zero, List.set_cons_succ]
          refine wpAnyH_ready (rs := [10]) (by kernel_rfl) (by simp) ?_
          refine AllReadyH.cons rfl (fun K hK => ?_) ?_
          · go_simp
            refine hK.out _ _ ⟨(bx6.setOther ⟨c, 1, none⟩ (by show w1.heap.size ≠ c; omega) _).cell (j := 0) rfl, (bx6.setOther ⟨c, 1, none⟩ (by show w1.heap.size ≠ c; omega) _).cell (j := 1) rfl⟩ (fun hHeld => ?_)
            clear hK K
            try simp only [Act.put, List.setIfInBounds_toArray, List.set_cons_zero, List.set_cons_succ]
            refine wpAnyH_done (by kernel_rfl) ?_ _
            go_wp2_with fail
            go_ret
            have hal : ∀ a, A6 = some a → a.block ≠ c := fun a ha => by have := (hown6.lt a ha).1; omega
            have how7 : OwnL encG (w3.setCell ⟨c, 1, none⟩ (.slice A6 (r.length + 1) c6)) w.heap.size 76 A6 c6 (r ++ [(k1, s1)]) := hown6.keep fun a ha => heap_setCell_other _ _ _ _ (hal a ha)
            have hsm : SameBut (fun j => j = c) w (w3.setCell ⟨c, 1, none⟩ (.slice A6 (r.length + 1) c6)) := ((((hs.keep hB).alloc _).drew).grown hgr6 (fun j hj h => by
              cases A5 with
              | none => simp [blkOf] at h
              | some a =>
                have h1 : a.block = j := by simpa [blkOf] using h
                have := (how.lt a rfl).1
                omega)).setCell _ _ (fun _ => rfl)
            have htl : touchRR k l = r ++ [(k1, s1)] := by rw [touchRR, Htk.out]
            have hus := used_takeR Htk.out
            have hle := h.le
            have hps : ∀ t ∈ r ++ [(k1, s1)], 1 ≤ t.2 := by
              obtain ⟨a, b, h1, h2, _, _⟩ := takeR_some Htk.out
              intro t ht
              refine h.ps t ?_
              rw [h1]
              rw [h2] at ht
              simp only [List.mem_append, List.mem_cons, List.not_mem_nil, or_false] at ht ⊢
              rcases ht with (h | h) | h
              · exact .inl h
              · exact .inr (.inr h)
              · exact .inr (.inl h)
            refine ⟨by rw [Htk.out]; rfl, A6, c6, ⟨?_, ?_, ?_, hal, ?_, h.rm, ?_, fun a ha => (how7.lt a ha).2⟩, fun a ha => .inr (how7.lt a ha).1, hsm⟩
            · rw [htl, List.length_append]; exact hbx6.set 1 (.slice A6 (r.length + 1) c6)
            · rw [htl]; exact how7.read
            · rw [htl]; exact how7.le_cap
            · have hus1 : usedR l = s1 + usedR r := hus
              have hus2 : usedR (r ++ [(k1, s1)]) = usedR r + s1 := by rw [usedR_append]; simp [usedR]
              rw [htl, hus2]; omega
            · rw [htl]; exact hps
          exact AllReadyH.nil
        exact AllReadyH.nil
      exact AllReadyH.nil
    refine AllReadyH.cons rfl (fun K hK => ?_) ?_
    · go_simp
      refine hK.out _ _ ⟨(bx5.alloc (.cells #[S k1, .int .i64 (s1 : Int)] 76)).cell (j := 0) rfl, (bx5.alloc (.cells #[S k1, .int .i64 (s1 : Int)] 76)).cell (j := 1) rfl⟩ (fun hHeld => ?_)
      clear hK K
      try simp only [Act.put, List.setIfInBounds_toArray, List.set_cons_zero, List.set_cons_succ]
      refine wpAnyH_ready (rs := [4]) (by kernel_rfl) (by simp) ?_
      refine AllReadyH.cons rfl (fun K hK => ?_) ?_
      · go_simp
        refine hK.out _ _ ⟨(bx5.alloc (.cells #[S k1, .int .i64 (s1 : Int)] 76)).cell (j := 0) rfl, (bx5.alloc (.cells #[S k1, .int .i64 (s1 : Int)] 76)).cell (j := 1) rfl⟩ (fun hHeld => ?_)
        clear hK K
        try simp only [Act.put, List.setIfInBounds_toArray, List.set_cons_zero, List.set_cons_succ]
        refine wpAnyH_ready (rs := [7]) (by kernel_rfl) (by simp) ?_
        refine AllReadyH.cons rfl (fun K hK => ?_) ?_
        · (refine step_app_at (l := r) (base := w.heap.size) encG sl_G [(k1, s1)] (by rfl) _ _ (by rfl) (by rfl) (by first | exact OwnL.alc (OwnL.drw how2) _ | exact OwnL.drw (OwnL.alc how2 _)) (by rfl) (by exact hlit) (by simp; omega) (by simp [maxLen]; omega) (by simp; omega) ?_; intro A6 c6 w3 hown6 hgr6 hform6 hb6; have bx5a : BoxAt (wa.alloc (.cells #[S k1, .int .i64 (s1 : Int)] 76)).drew w1.heap.size _ _ := BoxAt.drew (BoxAt.alloc bx5 _); have hbxa : BoxAt (wa.alloc (.cells #[S k1, .int .i64 (s1 : Int)] 76)).drew c _ _ := BoxAt.drew (BoxAt.alloc hbx2 _); have bx6 := BoxAt.grn bx5a hgr6 hne5; have hbx6 := BoxAt.grn hbxa hgr6 hnec; have b6 := hbx6.cell (j := 1) rfl; have f6 := hbx6.free 1)
          refine hK.out _ _ ⟨bx6.cell (j := 0) rfl, bx6.cell (j := 1) rfl⟩ (fun hHeld => ?_)
          clear hK K
          try simp only [Act.put, List.setIfInBounds_toArray, List.set_cons_zero, List.set_cons_succ]
          refine wpAnyH_take (i := 8) (v := ?_) rfl (by kernel_rfl) (by kernel_rfl) (by kernel_rfl) (fun _ _ _ h => h) (Or.inl ⟨by rfl, by (intro W hSw; (try dsimp only at hSw); go_simp; try (with_reducible rfl))⟩) (by assumption) ?_
          try simp only [Act.put, List.setIfInBounds_toArray, List.set_cons_zero, List.set_cons_succ]
          refine wpAnyH_take (i := 9) (v := ?_) rfl (by kernel_rfl) (by kernel_rfl) (by kernel_rfl) (fun _ _ _ h => h) (Or.inl ⟨by rfl, by (intro W hSw; (try dsimp only at hSw); go_simp; try (with_reducible rfl))⟩) (by assumption) ?_
          try simp only [Act.put, List.setIfInBounds_toArray, List.set_cons_zero, List.set_cons_succ]
          refine wpAnyH_ready (rs := [10]) (by kernel_rfl) (by simp) ?_
          refine AllReadyH.cons rfl (fun K hK => ?_) ?_
          · go_simp
            refine hK.out _ _ ⟨(bx6.setOther ⟨c, 1, none⟩ (by show w1.heap.size ≠ c; omega) _).cell (j := 0) rfl, (bx6.setOther ⟨c, 1, none⟩ (by show w1.heap.size ≠ c; omega) _).cell (j := 1) rfl⟩ (fun hHeld => ?_)
            clear hK K
            try simp only [Act.put, List.setIfInBounds_toArray, List.set_cons_zero, List.set_cons_succ]
            refine wpAnyH_done (by kernel_rfl) ?_ _
            go_wp2_with fail
            go_ret
            have hal : ∀ a, A6 = some a → a.block ≠ c := fun a ha => by have := (hown6.lt a ha).1; omega
            have how7 : OwnL encG (w3.setCell ⟨c, 1, none⟩ (.slice A6 (r.length + 1) c6)) w.heap.size 76 A6 c6 (r ++ [(k1, s1)]) := hown6.keep fun a ha => heap_setCell_other _ _ _ _ (hal a ha)
            have hsm : SameBut (fun j => j = c) w (w3.setCell ⟨c, 1, none⟩ (.slice A6 (r.length + 1) c6)) := ((((hs.keep hB).alloc _).drew).grown hgr6 (fun j hj h => by
              cases A5 with
              | none => simp [blkOf] at h
              | some a =>
                have h1 : a.block = j := by simpa [blkOf] using h
                have := (how.lt a rfl).1
                omega)).setCell _ _ (fun _ => rfl)
            have htl : touchRR k l = r ++ [(k1, s1)] := by rw [touchRR, Htk.out]
            have hus := used_takeR Htk.out
            have hle := h.le
            have hps : ∀ t ∈ r ++ [(k1, s1)], 1 ≤ t.2 := by
              obtain ⟨a, b, h1, h2, _, _⟩ := takeR_some Htk.out
              intro t ht
              refine h.ps t ?_
              rw [h1]
              rw [h2] at ht
              simp only [List.mem_append, List.mem_cons, List.not_mem_nil, or_false] at ht ⊢
              rcases ht with (h | h) | h
              · exact .inl h
              · exact .inr (.inr h)
              · exact .inr (.inl h)
            refine ⟨by rw [Htk.out]; rfl, A6, c6, ⟨?_, ?_, ?_, hal, ?_, h.rm, ?_, fun a ha => (how7.lt a ha).2⟩, fun a ha => .inr (how7.lt a ha).1, hsm⟩
            · rw [htl, List.length_append]; exact hbx6.set 1 (.slice A6 (r.length + 1) c6)
            · rw [htl]; exact how7.read
            · rw [htl]; exact how7.le_cap
            · have hus1 : usedR l = s1 + usedR r := hus
              have hus2 : usedR (r ++ [(k1, s1)]) = usedR r + s1 := by rw [usedR_append]; simp [usedR]
              rw [htl, hus2]; omega
            · rw [htl]; exact hps
          exact AllReadyH.nil
        exact AllReadyH.nil
      exact AllReadyH.nil
    exact AllReadyH.nil
/-- what put leaves -/
def PutRP (w : World) (c room : Nat) (A : Option Addr) (l : List Thg) (k : List UInt8) (size : Int) (e : Ending) (w' : World) : Prop :=
  (size < 1 ∧ e = .returned (.tuple #[.slice none 0 0, .int .i64 1]) ∧ w' = w) ∨
  (1 ≤ size ∧ (room : Int) < size ∧ e = .returned (.tuple #[.slice none 0 0, .int .i64 6]) ∧ w' = w) ∨
  (∃ n : Nat, size = n ∧ 1 ≤ n ∧ n ≤ room ∧ ∃ A2 c2, e = .returned (.tuple #[.slice A2 (goneR room n k l).length c2, .int .i64 0]) ∧ OwnL encL w' w.heap.size 9 A2 c2 (goneR room n k l) ∧
    RefP w c room A (putR room n k l) w')
theorem shed_go {room size : Nat} {t : Thg} {r : List Thg} (h : ¬ usedR (t :: r) + size ≤ room) : shedR room size (t :: r) = (t.1 :: (shedR room size r).1, (shedR room size r).2) := by
  rw [shedR, if_neg h]
theorem shed_end {room size : Nat} {r : List Thg} (h : usedR r + size ≤ room) : shedR room size r = ([], r) := by
  cases r with
  | nil => rfl
  | cons t r => rw [shedR, if_pos h]
def lenSlR : Value → Nat
  | .slice _ n _ => n
  | _ => 0
theorem NewA.trans {A1 A2 : Option Addr} (h : NewA w A A1) (h2 : ∀ a', A2 = some a' → (∃ a, A1 = some a ∧ a'.block = a.block) ∨ w.heap.size ≤ a'.block) : NewA w A A2 := by
  intro a' ha
  rcases h2 a' ha with ⟨a, h1, h3⟩ | h1
  · rcases h a h1 with ⟨a0, h4, h5⟩ | h4
    · exact .inl ⟨a0, h4, h3.trans h5⟩
    · exact .inr (by omega)
  · exact .inr h1
set_option maxHeartbeats 8000000 in
set_option maxRecDepth 100000 in
theorem w_RefPut (k : List UInt8) (size : Int) (hsz : -9223372036854775808 ≤ size ∧ size ≤ 9223372036854775807) (h : RefR w c room A cap l) :
    Calls Try.prog 10 #[.pointer (some ⟨c, 0, none⟩), S k, .int .i64 size] w (PutRP w c room A l k size) := by
  have c0 := h.box.cell (j := 0) rfl
  have hrm := h.rm
  have hclt := h.box.lt
  by_cases hs1 : size < 1
  · have Hs1 := Lib.hid hs1
    go_enter Try.func10, Try.ntmps10
    go_wp2_with fail
    go_ret2
    exact .inl ⟨Hs1.out, rfl, rfl⟩
  · by_cases hs2 : (room : Int) < size
    · have Hs1 := Lib.hid hs1
      have Hs2 := Lib.hid hs2
      go_enter Try.func10, Try.ntmps10
      go_wp2_with fail
      go_ret2
      exact .inr (.inl ⟨by have := Hs1.out; omega, Hs2.out, rfl, rfl⟩)
    · obtain ⟨n, rfl⟩ : ∃ n : Nat, size = n := ⟨size.toNat, by omega⟩
      have ht := w_RefTake k h
      go_enter Try.func10, Try.ntmps10
      go_wp2_with fail
      refine Calls.mono ht ?_
      intro e w1 htk
      obtain ⟨k1, s1, bb, rfl, -, A1, cap1, hr1, hn1, hsm1⟩ := htk.any h
      clear htk
      have hw1 := hsm1.size
      obtain ⟨l1, hl1⟩ : ∃ l1, l1 = dropR k l := ⟨_, rfl⟩
      rw [← hl1] at hr1
      have Hl1 := Lib.hid hl1
      clear hl1
      have hl1l := hr1.len
      go_wp2_with fail
      go_loopw [8] (fun o' wr => ∃ (gone : List (List UInt8)) (rest : List Thg) (A2 : Option Addr) (c2 : Nat) (Ar : Option Addr) (capr : Nat), o' = .slice A2 gone.length c2 ∧ OwnL encL wr w1.heap.size 9 A2 c2 gone ∧ RefR wr c room Ar capr rest ∧ NewA w A Ar ∧ SameBut (fun j => j = c) w wr ∧ gone.length + rest.length ≤ 1000000 ∧ Hid (shedR room n l1 = (gone ++ (shedR room n rest).1, (shedR room n rest).2)) ∧ w1.heap.size ≤ wr.heap.size ∧ (rest ≠ [] → ∀ a, Ar = some a → a.block < w1.heap.size)) (fun o' _ => 1000000 - lenSlR o')
      case atStart => exact ⟨[], l1, none, 0, A1, cap1, rfl, OwnL.nil _ _ _, hr1, hn1, hsm1, by simpa using hl1l, Lib.hid (by simp), Nat.le_refl _, fun hne a ha => by
        obtain ⟨b, off, hA, hb, _⟩ := hr1.rd (List.length_pos_iff.2 hne)
        rw [hA] at ha; cases ha; exact hb⟩
      case round =>
        obtain ⟨gone, rest, A2, c2, Ar, capr, rfl, hown, hr, hnw, hsm, hgl, hsh, hwr, hbk⟩ := hrel
        have hu := fun W (hW : Below wr.heap.size wr W) => w_RefUsed (hr.keep hW)
        have d0 := hr.box.cell (j := 0) rfl
        have hle := hr.le
        obtain ⟨u, hue⟩ : ∃ u, u = usedR rest := ⟨_, rfl⟩
        rw [← hue] at hu hle
        have Hu := Lib.hid hue
        clear hue
        have hBd : Below wr.heap.size wr wr.drew := (Below.refl _ wr).drew
        have hw64 : IntKind.i64.wrap ((room : Int) - (n : Int)) = (room : Int) - (n : Int) := IntWalk.i64_in _ ⟨by omega, by omega⟩
        by_cases hfit : (room : Int) - (n : Int) < (u : Int)
        · obtain ⟨⟨k2, s2⟩, r, rfl⟩ : ∃ t r, rest = t :: r := by
            cases rest with
            | nil => have := Hu.out; simp [usedR] at this; omega
            | cons t r => exact ⟨t, r, rfl⟩
          have hbk2 := hbk (by simp)
          have hAr : ∀ j, FRr c Ar j → ¬ w1.heap.size ≤ j := by
            rintro j (rfl | hj)
            · omega
            · cases Ar with
              | none => simp [blkOf] at hj
              | some a =>
                have h1 : a.block = j := by simpa [blkOf] using hj
                have := hbk2 a rfl
                omega
          have Hbk := Lib.hid hbk2
          have hcp2 := hr.cap
          have hgl2 : gone.length + (r.length + 1) ≤ 1000000 := hgl
          have hcp3 : r.length + 1 ≤ capr := hcp2
          obtain ⟨A3, hs2, hk3, hr3⟩ := run_sliceLG elem_G sl_G (E := encG) Ar (r.length + 1) capr 1 (by omega) hcp3
          rw [show ((1 : Nat) : Int) = 1 from rfl, show r.length + 1 - 1 = r.length from rfl] at hs2
          have Hnot := Lib.hid (show ¬ usedR ((k2, s2) :: r) + n ≤ room from by rw [← Hu.out]; omega)
          clear hbk hbk2 hgl hcp2
          go_wp2_with fail
          refine wp_region_held_drew (S := (fun W => W.cell? ⟨c, 0, none⟩ = some (.int .i64 (room : Int)))) (by kernel_rfl) d0 (fun hHeld => ?_)
          refine wpAnyH_take (i := 0) (v := ?_) rfl (by kernel_rfl) (by kernel_rfl) (by kernel_rfl) (fun _ _ _ h => h) (Or.inl ⟨by rfl, by (intro W hSw; (try dsimp only at hSw); go_simp; try (with_reducible rfl))⟩) (by assumption) ?_
          try simp only [Act.put, List.setIfInBounds_toArray, List.set_cons_zero, List.set_cons_succ]
          refine wpAnyH_take (i := 2) (v := ?_) rfl (by kernel_rfl) (by kernel_rfl) (by kernel_rfl) (fun _ _ _ h => h) (Or.inl ⟨by rfl, by (intro W hSw; (try dsimp only at hSw); go_simp; try (with_reducible rfl))⟩) (by assumption) ?_
          try simp only [Act.put, List.setIfInBounds_toArray, List.set_cons_zero, List.set_cons_succ]
          refine wpAnyH_take (i := 3) (v := ?_) rfl (by kernel_rfl) (by kernel_rfl) (by kernel_rfl) (fun _ _ _ h => h) (Or.inl ⟨by rfl, by (intro W hSw; (try dsimp only at hSw); go_simp; try (with_reducible rfl))⟩) (by assumption) ?_
          try simp only [Act.put, List.setIfInBounds_toArray, List.set_cons_zero, List.set_cons_succ]
          refine wpAnyH_take (i := 4) (v := ?_) rfl (by kernel_rfl) (by kernel_rfl) (by kernel_rfl) (fun _ _ _ h => h) (Or.inl ⟨by rfl, by (intro W hSw; (try dsimp only at hSw); go_simp; try (with_reducible rfl))⟩) (by assumption) ?_
          try simp only [Act.put, List.setIfInBounds_toArray, List.set_cons_zero, List.set_cons_succ]
          refine wpAnyH_take (i := 5) (v := ?_) rfl (by kernel_rfl) (by kernel_rfl) (by kernel_rfl) (fun _ _ _ h => h) (Or.inl ⟨by rfl, by (intro W hSw; (try dsimp only at hSw); go_simp; try (with_reducible rfl))⟩) (by assumption) ?_
          try simp only [Act.put, List.setIfInBounds_toArray, List.set_cons_zero, List.set_cons_succ]
          refine wpAnyH_take (i := 6) (v := ?_) rfl (by kernel_rfl) (by kernel_rfl) (by kernel_rfl) (fun _ _ _ h => h) (Or.inl ⟨by rfl, by (intro W hSw; (try dsimp only at hSw); go_simp; try (with_reducible rfl))⟩) (by assumption) ?_
          try simp only [Act.put, List.setIfInBounds_toArray, List.set_cons_zero, List.set_cons_succ]
          refine wpAnyH_take (i := 7) (v := ?_) rfl (by kernel_rfl) (by kernel_rfl) (by kernel_rfl) (fun _ _ _ h => h) (Or.inl ⟨by rfl, by (intro W hSw; (try dsimp only at hSw); go_simp; try (with_reducible rfl))⟩) (by assumption) ?_
          try simp only [Act.put, List.setIfInBounds_toArray, List.set_cons_zero, List.set_cons_succ]
          refine wpAnyH_ready (rs := [1]) (by kernel_rfl) (by simp) ?_
          refine AllReadyH.cons rfl (fun K hK => ?_) ?_
          · (go_simp; go_at_call 19; refine Calls.mono (hu _ (by exact hBd)) ?_; rintro e w2 ⟨rfl, hb2⟩; have hB2 : Below wr.heap.size wr w2 := Below.trans (by exact hBd) (hb2.mono (by first | exact Nat.le_refl _ | (simp; done))))
            refine hK.out _ _ ((hr.box.keep hB2).cell (j := 0) rfl) (fun hHeld => ?_)
            clear hK K
            try simp only [Act.put, List.setIfInBounds_toArray, List.set_cons_zero, List.set_cons_succ]
            refine wpAnyH_take (i := 8) (v := ?_) rfl (by kernel_rfl) (by kernel_rfl) (by kernel_rfl) (fun _ _ _ h => h) (Or.inl ⟨by rfl, by (intro W hSw; (try dsimp only at hSw); go_simp; try (with_reducible rfl))⟩) (by assumption) ?_
            try simp only [Act.put, List.setIfInBounds_toArray, List.set_cons_zero, List.set_cons_succ]
            refine wpAnyH_done (by kernel_rfl) ?_ _
            have hr2 := hr.keep hB2
            obtain ⟨g, off, hA, q0, q1⟩ := hr2.cells (i := 0) (e := (k2, s2)) rfl
            have e0 : off + 0 * 2 = off := by omega
            rw [e0] at q0
            subst hA
            have b1 : w2.cell? ⟨c, 1, none⟩ = some (.slice (some ⟨g, off, none⟩) (r.length + 1) capr) := hr2.box.cell (j := 1) rfl
            have hown2 := OwnL.below hown hB2 (Nat.le_refl _)
            have hw2 : w1.heap.size ≤ w2.heap.size := Nat.le_trans hwr hB2.size
            have HB2 := Lib.hid hB2
            go_wp2_with (at_builtin; refine wpList_app encL sl_GS [k2] rfl _ _ rfl rfl hown2 #[S k2] rfl 0 rfl rfl (by omega) (by simp only [maxLen]; omega) hw2 ?_; intro g' c' w3 hown3 hg3 hb3 hbg3; have hr4 := hr2.but (Larder.Below.same hb3) hAr; have b3 : w3.cell? ⟨c, 1, none⟩ = some (.slice (some ⟨g, off, none⟩) (r.length + 1) capr) := hr4.box.cell (j := 1) rfl; have f3 := hr4.box.free 1)
            go_roundw
            case rel =>
              have hne3 : ∀ a, A3 = some a → a.block ≠ c := fun a ha => by
                obtain ⟨a0, h1, h2⟩ := hk3 a ha
                rw [h2]; exact hr.ne a0 h1
              have hrd := hr3 (l := (k2, s2) :: r) rfl hr4.rd
              have hsc : SameBut (fun j => j = c) w3 (w3.setCell ⟨c, 1, none⟩ (.slice A3 (r.length + 1 - 1) (capr - 1))) := (SameBut.refl w3).setCell _ _ (fun _ => rfl)
              refine ⟨gone ++ [k2], r, some ⟨g', 0, none⟩, c', A3, capr - 1, by simp, ?_, ⟨hr4.box.set 1 (.slice A3 r.length (capr - 1)), ?_, by omega, hne3, ?_, hrm, fun t ht => hr.ps t (List.mem_cons_of_mem _ ht), fun a ha => by
                obtain ⟨a0, h1, h2⟩ := hk3 a ha
                rw [h2]; exact Nat.lt_of_lt_of_le (hr4.lt a0 h1) hsc.size⟩, NewA.trans hnw fun a ha => .inl (hk3 a ha), ?_, by simp; omega, ?_, ?_, ?_⟩
              · exact hown3.keep fun a ha => heap_setCell_other _ _ _ _ (by have := (hown3.lt a ha).1; show a.block ≠ c; omega)
              · refine (ReadL.butG hrd (Nat.le_refl _) hsc (fun j hj e => ?_)).more hsc.size
                cases A3 with
                | none => simp [blkOf] at hj
                | some a =>
                  have h1 : a.block = j := by simpa [blkOf] using hj
                  exact hne3 a rfl (h1.trans e)
              · have := hr.le
                rw [usedR_cons] at this
                omega
              · exact ((hsm.keep HB2.out).below hb3 (fun j hj h => absurd h (by omega))).setCell _ _ (fun _ => rfl)
              · exact Lib.hid (by rw [hsh.out, shed_go Hnot.out]; simp)
              · have := hb3.size
                simp
                omega
              · intro _ a ha
                obtain ⟨a0, h1, h2⟩ := hk3 a ha
                rw [h2]; exact Hbk.out a0 h1
            case measure => simp [lenSlR]; omega
          exact AllReadyH.nil
        · have Hfit := Lib.hid (show usedR rest + n ≤ room from by rw [← Hu.out]; omega)
          have hlr := hr.len
          go_wp2_with fail
          refine wp_region_held_drew (S := (fun W => W.cell? ⟨c, 0, none⟩ = some (.int .i64 (room : Int)))) (by kernel_rfl) d0 (fun hHeld => ?_)
          refine wpAnyH_take (i := 0) (v := ?_) rfl (by kernel_rfl) (by kernel_rfl) (by kernel_rfl) (fun _ _ _ h => h) (Or.inl ⟨by rfl, by (intro W hSw; (try dsimp only at hSw); go_simp; try (with_reducible rfl))⟩) (by assumption) ?_
          try simp only [Act.put, List.setIfInBounds_toArray, List.set_cons_zero, List.set_cons_succ]
          refine wpAnyH_take (i := 2) (v := ?_) rfl (by kernel_rfl) (by kernel_rfl) (by kernel_rfl) (fun _ _ _ h => h) (Or.inl ⟨by rfl, by (intro W hSw; (try dsimp only at hSw); go_simp; try (with_reducible rfl))⟩) (by assumption) ?_
          try simp only [Act.put, List.setIfInBounds_toArray, List.set_cons_zero, List.set_cons_succ]
          refine wpAnyH_take (i := 3) (v := ?_) rfl (by kernel_rfl) (by kernel_rfl) (by kernel_rfl) (fun _ _ _ h => h) (Or.inl ⟨by rfl, by (intro W hSw; (try dsimp only at hSw); go_simp; try (with_reducible rfl))⟩) (by assumption) ?_
          try simp only [Act.put, List.setIfInBounds_toArray, List.set_cons_zero, List.set_cons_succ]
          refine wpAnyH_take (i := 4) (v := ?_) rfl (by kernel_rfl) (by kernel_rfl) (by kernel_rfl) (fun _ _ _ h => h) (Or.inl ⟨by rfl, by (intro W hSw; (try dsimp only at hSw); go_simp; try (with_reducible rfl))⟩) (by assumption) ?_
          try simp only [Act.put, List.setIfInBounds_toArray, List.set_cons_zero, List.set_cons_succ]
          refine wpAnyH_take (i := 5) (v := ?_) rfl (by kernel_rfl) (by kernel_rfl) (by kernel_rfl) (fun _ _ _ h => h) (Or.inl ⟨by rfl, by (intro W hSw; (try dsimp only at hSw); go_simp; try (with_reducible rfl))⟩) (by assumption) ?_
          try simp only [Act.put, List.setIfInBounds_toArray, List.set_cons_zero, List.set_cons_succ]
          refine wpAnyH_take (i := 6) (v := ?_) rfl (by kernel_rfl) (by kernel_rfl) (by kernel_rfl) (fun _ _ _ h => h) (Or.inl ⟨by rfl, by (intro W hSw; (try dsimp only at hSw); go_simp; try (with_reducible rfl))⟩) (by assumption) ?_
          try simp only [Act.put, List.setIfInBounds_toArray, List.set_cons_zero, List.set_cons_succ]
          refine wpAnyH_take (i := 7) (v := ?_) rfl (by kernel_rfl) (by kernel_rfl) (by kernel_rfl) (fun _ _ _ h => h) (Or.inl ⟨by rfl, by (intro W hSw; (try dsimp only at hSw); go_simp; try (with_reducible rfl))⟩) (by assumption) ?_
          try simp only [Act.put, List.setIfInBounds_toArray, List.set_cons_zero, List.set_cons_succ]
          refine wpAnyH_ready (rs := [1]) (by kernel_rfl) (by simp) ?_
          refine AllReadyH.cons rfl (fun K hK => ?_) ?_
          · (go_simp; go_at_call 19; refine Calls.mono (hu _ (by exact hBd)) ?_; rintro e w2 ⟨rfl, hb2⟩; have hB2 : Below wr.heap.size wr w2 := Below.trans (by exact hBd) (hb2.mono (by first | exact Nat.le_refl _ | (simp; done))))
            refine hK.out _ _ ((hr.box.keep hB2).cell (j := 0) rfl) (fun hHeld => ?_)
            clear hK K
            try simp only [Act.put, List.setIfInBounds_toArray, List.set_cons_zero, List.set_cons_succ]
            refine wpAnyH_take (i := 8) (v := ?_) rfl (by kernel_rfl) (by kernel_rfl) (by kernel_rfl) (fun _ _ _ h => h) (Or.inl ⟨by rfl, by (intro W hSw; (try dsimp only at hSw); go_simp; try (with_reducible rfl))⟩) (by assumption) ?_
            try simp only [Act.put, List.setIfInBounds_toArray, List.set_cons_zero, List.set_cons_succ]
            refine wpAnyH_done (by kernel_rfl) ?_ _
            have hr2 := hr.keep hB2
            have b1 := hr2.box.cell (j := 1) rfl
            have hcp := w_RefCopy rest (by omega) Ar capr w2 hr2.rd
            have hc2 := hr2.box.lt
            have hown2 := OwnL.below hown hB2 (Nat.le_refl _)
            have hw2 : w1.heap.size ≤ w2.heap.size := Nat.le_trans hwr hB2.size
            have HB2 := Lib.hid hB2
            go_wp2_with (first
              | (go_at_call 35; refine hcp.mono ?_; rintro e w5 ⟨⟨A5, c5, rfl, how5⟩, hb5⟩; have hown5 := OwnL.below hown2 hb5 (Nat.le_refl _); have bx5 := hr2.box.keep hb5)
              | (at_builtin; refine wpList_app encG sl_G [(k, n)] rfl _ _ rfl rfl how5 #[S k, .int .i64 (n : Int)] rfl 0 rfl rfl (by omega) (by simp only [maxLen]; omega) hb5.size ?_; intro g6 c6 w6 how6 hg6 hb6 hbg6; have bx6 := bx5.kept hb6 hc2; have b6 := bx6.cell (j := 1) rfl; have f6 := bx6.free 1))
            go_ret2
            have hgone : goneR room n k l = gone := by rw [goneR, ← Hl1.out, hsh.out, shed_end Hfit.out]; simp
            have hput : putR room n k l = rest ++ [(k, n)] := by rw [putR, ← Hl1.out, hsh.out, shed_end Hfit.out]
            have how7 : OwnL encG (w6.setCell ⟨c, 1, none⟩ (.slice (some ⟨g6, 0, none⟩) (rest.length + 1) c6)) w2.heap.size 76 (some ⟨g6, 0, none⟩) c6 (rest ++ [(k, n)]) := how6.keep fun a ha => heap_setCell_other _ _ _ _ (by have := (how6.lt a ha).1; show a.block ≠ c; omega)
            have hbb : Below w2.heap.size w2 w6 := hb5.trans hb6
            have hus : usedR (rest ++ [(k, n)]) = usedR rest + n := by rw [usedR_append]; simp [usedR]
            refine .inr (.inr ⟨n, rfl, by omega, by omega, A2, c2, by rw [hgone]; rfl, ?_, some ⟨g6, 0, none⟩, c6, ⟨?_, ?_, ?_, ?_, ?_, hrm, ?_, fun a ha => (how7.lt a ha).2⟩, ?_, ?_⟩)
            · rw [hgone]
              exact ((OwnL.below hown2 hbb (Nat.le_refl _)).keep fun a ha => heap_setCell_other _ _ _ _ (by have := (hown2.lt a ha).1; show a.block ≠ c; omega)).base_le hw1
            · rw [hput, List.length_append]; exact bx6.set 1 (.slice (some ⟨g6, 0, none⟩) (rest.length + 1) c6)
            · rw [hput]; exact how7.read
            · rw [hput]; exact how7.le_cap
            · intro a ha
              have := (how7.lt a ha).1
              omega
            · rw [hput, hus]; exact Hfit.out
            · rw [hput]
              intro t ht
              rcases List.mem_append.1 ht with ht | ht
              · exact hr.ps t ht
              · simp only [List.mem_singleton] at ht
                subst ht
                show 1 ≤ n
                omega
            · intro a ha
              have := (how7.lt a ha).1
              exact .inr (by omega)
            · exact ((hsm.keep HB2.out).below hbb (fun j hj h => absurd h (by omega))).setCell _ _ (fun _ => rfl)
          exact AllReadyH.nil
end Go.Proofs.Ytbchkaoocobpfaa
