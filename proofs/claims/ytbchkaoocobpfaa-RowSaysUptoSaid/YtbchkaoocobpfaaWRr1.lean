/- Walks: the reference's rows: one taken out, put, touched, dropped. -/
import Derived.Test.YtbchkaoocobpfaaWRr0
import Derived.StillTailTactics
import Derived.StillTactics
import Derived.Deep.RegionHeld3
namespace Go.Larder
theorem take_at {k : List UInt8} {s : Nat} : ∀ {l : List Thg} {i : Nat}, (∀ x ∈ l.take i, x.1 ≠ k) → l[i]? = some (k, s) → takeR k l = some ((k, s), l.take i ++ l.drop (i + 1))
  | [], _, _, h => by simp at h
  | t :: r, 0, _, h => by
    simp only [List.getElem?_cons_zero, Option.some.injEq] at h
    subst h
    simp [takeR]
  | t :: r, i + 1, h1, h => by
    have h2 : t.1 ≠ k := h1 t (by simp)
    have h3 := take_at (l := r) (i := i) (fun x hx => h1 x (by simp [hx])) (by simpa using h)
    rw [takeR, if_neg h2, h3]
    rfl
theorem take_no {k : List UInt8} : ∀ {l : List Thg}, (∀ x ∈ l, x.1 ≠ k) → takeR k l = none
  | [], _ => rfl
  | t :: r, h => by
    rw [takeR, if_neg (h t (by simp)), take_no fun x hx => h x (by simp [hx])]
    rfl
end Go.Larder
namespace Go.Proofs.Ytbchkaoocobpfaa
open Go.RowKit Go.Larder
set_option linter.unusedVariables false
set_option linter.unusedSimpArgs false
variable {w w' : World} {c room cap : Nat} {A : Option Addr} {l : List Thg}
/-- what take leaves -/
def TakeRP (w : World) (c room : Nat) (l : List Thg) (k : List UInt8) (e : Ending) (w' : World) : Prop :=
  (takeR k l = none ∧ e = .returned (.tuple #[.agg #[S [], .int .i64 0], .bool false]) ∧ Below w.heap.size w w') ∨
  (∃ t r A' cap', takeR k l = some (t, r) ∧ e = .returned (.tuple #[.agg #[S t.1, .int .i64 (t.2 : Int)], .bool true]) ∧ BoxAt w' c 71 [.int .i64 (room : Int), .slice A' r.length cap'] ∧
    OwnL encG w' w.heap.size 76 A' cap' r ∧ SameBut (fun j => j = c) w w')
set_option maxHeartbeats 8000000 in
set_option maxRecDepth 100000 in
theorem w_RefTake (k : List UInt8) (h : RefR w c room A cap l) :
    Calls Try.prog 34 #[.pointer (some ⟨c, 0, none⟩), S k] w (TakeRP w c room l k) := by
  have c1 := h.box.cell (j := 1) rfl
  have hl := h.len
  have hcap := h.cap
  have hclt := h.box.lt
  have h0 := h.keep ((Below.refl w.heap.size w).alloc (Nat.le_refl _) (.cells #[S [], .int .i64 0] 76))
  have bx0 := BoxAt.new w [S [], .int .i64 0] 76
  have hB0 := (Below.refl w.heap.size w).alloc (Nat.le_refl _) (.cells #[S [], .int .i64 0] 76)
  have hsz0 : (w.alloc (.cells #[S [], .int .i64 0] 76)).heap.size = w.heap.size + 1 := by simp
  have d1 := h0.box.cell (j := 1) rfl
  go_enter Try.func34, Try.ntmps34
  go_upto_region 1 with fail
  generalize w.alloc (.cells #[S [], .int .i64 0] 76) = w0 at *
  go_wp2_with fail
  go_loopw [13] (fun i' wr => ∃ (i : Nat), i' = .int .i64 i ∧ i ≤ l.length ∧ Hid (∀ x ∈ l.take i, x.1 ≠ k) ∧ Below w0.heap.size w0 wr) (fun i' _ => l.length - (intOf i').toNat)
  case atStart => exact ⟨0, rfl, by omega, Lib.hid (by simp), Below.refl _ _⟩
  case round =>
    obtain ⟨i, rfl, hi, hno, hbel⟩ := hrel
    have hr := h0.keep hbel
    have bx1 := bx0.keep hbel
    have hwr := hbel.size
    by_cases hlt : i < l.length
    · obtain ⟨e, hei, hd⟩ := drop_step hlt
      obtain ⟨g, off, hA, q0, q1⟩ := hr.cells hei
      obtain ⟨kk, s⟩ := e
      simp only at q0 q1
      have Hei := Lib.hid hei
      clear hei hd
      subst hA
      go_upto_region 4 with fail
      have bx := BoxAt.new wr [S kk, .int .i64 (s : Int)] 76
      have hB1 := (Below.refl wr.heap.size wr).alloc (Nat.le_refl _) (.cells #[S kk, .int .i64 (s : Int)] 76)
      have hra := hr.keep hB1
      have bxa := bx1.keep hB1
      have hwa : (wr.alloc (.cells #[S kk, .int .i64 (s : Int)] 76)).heap.size = wr.heap.size + 1 := by simp
      generalize wr.alloc (.cells #[S kk, .int .i64 (s : Int)] 76) = wa at *
      have r0 := bx.cell (j := 0) rfl
      have r1 := bx.cell (j := 1) rfl
      have a1 := hra.box.cell (j := 1) rfl
      by_cases hk : kk = k
      · subst hk
        have hkE : (kk == kk) = true := by simp
        obtain ⟨A4, hs1, hk4, hr1⟩ := run_sliceHG elem_G sl_G (E := encG) (some ⟨g, off, none⟩) l.length cap i (by omega)
        obtain ⟨A3, hs2, hk3, hr2⟩ := run_sliceLG elem_G sl_G (E := encG) (some ⟨g, off, none⟩) l.length cap (i + 1) (by omega) hcap
        have hrt := hr1 (by omega) hra.rd
        have hrd := hr2 rfl hra.rd
        have htk : (l.take i).length = i := by rw [List.length_take]; omega
        have hdk : (l.drop (i + 1)).length = l.length - (i + 1) := by rw [List.length_drop]
        have hn1 : ((i + 1 : Nat) : Int) = (i : Int) + 1 := by omega
        rw [hn1] at hs2
        have hi64 : IntKind.i64.wrap ((i : Int) + 1) = (i : Int) + 1 := IntWalk.i64_in _ ⟨by omega, by omega⟩
        have hcp : ∀ W, Below wa.heap.size wa W → Calls Try.prog 35 #[.slice A4 i cap] W fun e w' => (∃ A2 c2, e = .returned (.slice A2 i c2) ∧ OwnL encG w' W.heap.size 76 A2 c2 (l.take i)) ∧ Below W.heap.size W w' :=
          fun W hW => by
            have h := w_RefCopy (l.take i) (by omega) A4 cap W ((ReadL.below hrt hW (Nat.le_refl _)).more hW.size)
            rwa [htk] at h
        have hBd : Below wa.heap.size wa wa.drew := (Below.refl _ wa).drew
        have htb : (l.take i).length ≤ 1000000 := by omega
        have hdb : (l.drop (i + 1)).length ≤ 1000000 := by omega
        have hca : c < wa.heap.size := by omega
        clear hdk
        go_wp2_with fail
        refine wp_region_held_drew (S := (fun _ => True)) (by kernel_rfl) trivial (fun hHeld => ?_)
        refine wpAnyH_take (i := 0) (v := ?_) rfl (by kernel_rfl) (by kernel_rfl) (by kernel_rfl) (fun _ _ _ h => h) (Or.inl ⟨by rfl, by (intro W hSw; (try dsimp only at hSw); go_simp; try (with_reducible rfl))⟩) (by assumption) ?_
        try simp only [Act.put, List.setIfInBounds_toArray, List.set_cons_zero, List.set_cons_succ]
        refine wpAnyH_take (i := 1) (v := ?_) rfl (by kernel_rfl) (by kernel_rfl) (by kernel_rfl) (fun _ _ _ h => h) (Or.inl ⟨by rfl, by (intro W hSw; (try dsimp only at hSw); go_simp; try (with_reducible rfl))⟩) (by assumption) ?_
        try simp only [Act.put, List.setIfInBounds_toArray, List.set_cons_zero, List.set_cons_succ]
        refine wpAnyH_take (i := 2) (v := ?_) rfl (by kernel_rfl) (by kernel_rfl) (by kernel_rfl) (fun _ _ _ h => h) (Or.inl ⟨by rfl, by (intro W hSw; (try dsimp only at hSw); go_simp; try (with_reducible rfl))⟩) (by assumption) ?_
        try simp only [Act.put, List.setIfInBounds_toArray, List.set_cons_zero, List.set_cons_succ]
        refine wpAnyH_take (i := 3) (v := ?_) rfl (by kernel_rfl) (by kernel_rfl) (by kernel_rfl) (fun _ _ _ h => h) (Or.inl ⟨by rfl, by (intro W hSw; (try dsimp only at hSw); go_simp; try (with_reducible rfl))⟩) (by assumption) ?_
        try simp only [Act.put, List.setIfInBounds_toArray, List.set_cons_zero, List.set_cons_succ]
        refine wpAnyH_take (i := 5) (v := ?_) rfl (by kernel_rfl) (by kernel_rfl) (by kernel_rfl) (fun _ _ _ h => h) (Or.inl ⟨by rfl, by (intro W hSw; (try dsimp only at hSw); go_simp; try (with_reducible rfl))⟩) (by assumption) ?_
        try simp only [Act.put, List.setIfInBounds_toArray, List.set_cons_zero, List.set_cons_succ]
        refine wpAnyH_take (i := 8) (v := ?_) rfl (by kernel_rfl) (by kernel_rfl) (by kernel_rfl) (fun _ _ _ h => h) (Or.inl ⟨by rfl, by (intro W hSw; (try dsimp only at hSw); go_simp; try (with_reducible rfl))⟩) (by assumption) ?_
        try simp only [Act.put, List.setIfInBounds_toArray, List.set_cons_zero, List.set_cons_succ]
        refine wpAnyH_take (i := 9) (v := ?_) rfl (by kernel_rfl) (by kernel_rfl) (by kernel_rfl) (fun _ _ _ h => h) (Or.inl ⟨by rfl, by (intro W hSw; (try dsimp only at hSw); go_simp; try (with_reducible rfl))⟩) (by assumption) ?_
        try simp only [Act.put, List.setIfInBounds_toArray, List.set_cons_zero, List.set_cons_succ]
        refine wpAnyH_take (i := 10) (v := ?_) rfl (by kernel_rfl) (by kernel_rfl) (by kernel_rfl) (fun _ _ _ h => h) (Or.inl ⟨by rfl, by (intro W hSw; (try dsimp only at hSw); go_simp; try (with_reducible rfl))⟩) (by assumption) ?_
        try simp only [Act.put, List.setIfInBounds_toArray, List.set_cons_zero, List.set_cons_succ]
        refine wpAnyH_take (i := 12) (v := ?_) rfl (by kernel_rfl) (by kernel_rfl) (by kernel_rfl) (fun _ _ _ h => h) (Or.inl ⟨by rfl, by (intro W hSw; (try dsimp only at hSw); go_simp; try (with_reducible rfl))⟩) (by assumption) ?_
        try simp only [Act.put, List.setIfInBounds_toArray, List.set_cons_zero, List.set_cons_succ]
        refine wpAnyH_take (i := 13) (v := ?_) rfl (by kernel_rfl) (by kernel_rfl) (by kernel_rfl) (fun _ _ _ h => h) (Or.inl ⟨by rfl, by (intro W hSw; (try dsimp only at hSw); go_simp; try (with_reducible rfl))⟩) (by assumption) ?_
        try simp only [Act.put, List.setIfInBounds_toArray, List.set_cons_zero, List.set_cons_succ]
        refine wpAnyH_ready (rs := [4, 11]) (by kernel_rfl) (by simp) ?_
        refine AllReadyH.cons rfl (fun K hK => ?_) ?_
        · go_simp
          refine hK.out _ _ trivial (fun hHeld => ?_)
          clear hK K
          try simp only [Act.put, List.setIfInBounds_toArray, List.set_cons_zero, List.set_cons_succ]
          refine wpAnyH_take (i := 6) (v := ?_) rfl (by kernel_rfl) (by kernel_rfl) (by kernel_rfl) (fun _ _ _ h => h) (Or.inl ⟨by rfl, by (intro W hSw; (try dsimp only at hSw); go_simp; try (with_reducible rfl))⟩) (by assumption) ?_
          try simp only [Act.put, List.setIfInBounds_toArray, List.set_cons_zero, List.set_cons_succ]
          refine wpAnyH_ready (rs := [7, 11]) (by kernel_rfl) (by simp) ?_
          refine AllReadyH.cons rfl (fun K hK => ?_) ?_
          · (go_simp; go_at_call 35; refine Calls.mono (hcp _ (by exact hBd)) ?_; rintro e w1 ⟨⟨A5, c5, rfl, hown5⟩, hb5⟩; have hB2 : Below wa.heap.size wa w1 := Below.trans (by exact hBd) (hb5.mono (by first | exact Nat.le_refl _ | (simp; done))); have b1 := (hra.box.kept hB2 hca).cell (j := 1) rfl)
            refine hK.out _ _ trivial (fun hHeld => ?_)
            clear hK K
            try simp only [Act.put, List.setIfInBounds_toArray, List.set_cons_zero, List.set_cons_succ]
            refine wpAnyH_ready (rs := [11]) (by kernel_rfl) (by simp) ?_
            refine AllReadyH.cons rfl (fun K hK => ?_) ?_
            · go_simp
              refine hK.out _ _ trivial (fun hHeld => ?_)
              clear hK K
              try simp only [Act.put, List.setIfInBounds_toArray, List.set_cons_zero, List.set_cons_succ]
              refine wpAnyH_take (i := 14) (v := ?_) rfl (by kernel_rfl) (by kernel_rfl) (by kernel_rfl) (fun _ _ _ h => h) (Or.inl ⟨by rfl, by (intro W hSw; (try dsimp only at hSw); go_simp; try (with_reducible rfl))⟩) (by assumption) ?_
              try simp only [Act.put, List.setIfInBounds_toArray, List.set_cons_zero, List.set_cons_succ]
              refine wpAnyH_ready (rs := [15]) (by kernel_rfl) (by simp) ?_
              refine AllReadyH.cons rfl (fun K hK => ?_) ?_
              · (refine step_app_atn (base := wa.heap.size) encG sl_G (l.drop (i + 1)) (by rfl) _ _ (by rfl) (l := l.take i) (by rfl) (by exact hown5) (by rfl) (ReadL.below hrd (by exact hB2) (Nat.le_refl _)) htk (by rw [List.length_drop]) (by simp; omega) (by simp [maxLen]; omega) (by exact hB2.size) ?_; intro A6 c6 w3 hown6 hgr6 hb6; have hB3 : Below wa.heap.size wa w3 := Below.trans hB2 (hb6.mono (Nat.le_refl _)); have bx3 := hra.box.kept hB3 hca; have b3 := bx3.cell (j := 1) rfl; have f3 := bx3.free 1)
                refine hK.out _ _ trivial (fun hHeld => ?_)
                clear hK K
                try simp only [Act.put, List.setIfInBounds_toArray, List.set_cons_zero, List.set_cons_succ]
                refine wpAnyH_take (i := 16) (v := ?_) rfl (by kernel_rfl) (by kernel_rfl) (by kernel_rfl) (fun _ _ _ h => h) (Or.inl ⟨by rfl, by (intro W hSw; (try dsimp only at hSw); go_simp; try (with_reducible rfl))⟩) (by assumption) ?_
                try simp only [Act.put, List.setIfInBounds_toArray, List.set_cons_zero, List.set_cons_succ]
                refine wpAnyH_take (i := 17) (v := ?_) rfl (by kernel_rfl) (by kernel_rfl) (by kernel_rfl) (fun _ _ _ h => h) (Or.inl ⟨by rfl, by (intro W hSw; (try dsimp only at hSw); go_simp; try (with_reducible rfl))⟩) (by assumption) ?_
                try simp only [Act.put, List.setIfInBounds_toArray, List.set_cons_zero, List.set_cons_succ]
                refine wpAnyH_ready (rs := [18]) (by kernel_rfl) (by simp) ?_
                refine AllReadyH.cons rfl (fun K hK => ?_) ?_
                · go_simp
                  refine hK.out _ _ trivial (fun hHeld => ?_)
                  clear hK K
                  try simp only [Act.put, List.setIfInBounds_toArray, List.set_cons_zero, List.set_cons_succ]
                  refine wpAnyH_done (by kernel_rfl) ?_ _
                  have t7 := (bx.kept hB3 (by omega)).setOther ⟨c, 1, none⟩ (by show wr.heap.size ≠ c; omega) (.slice A6 (i + (l.length - (i + 1))) c6)
                  have t4 := (bxa.kept hB3 (by omega)).setOther ⟨c, 1, none⟩ (by show w.heap.size ≠ c; omega) (.slice A6 (i + (l.length - (i + 1))) c6)
                  have t70 := t7.cell (j := 0) rfl
                  have t71 := t7.cell (j := 1) rfl
                  have t40 := t4.cell (j := 0) rfl
                  have t41 := t4.cell (j := 1) rfl
                  have f40 := t4.free 0
                  have f41 := t4.free 1
                  have hBw : Below w.heap.size w w3 := hB0.trans ((hbel.mono (by omega)).trans ((hB1.mono (by omega)).trans (hB3.mono (by omega))))
                  have Hsl := Lib.hid (show i + (l.length - (i + 1)) = (l.take i ++ l.drop (i + 1)).length from by rw [List.length_append, List.length_take, List.length_drop]; omega)
                  generalize i + (l.length - (i + 1)) = nn at *
                  clear t7
                  go_wp2_with fail
                  refine bodyPost_ret (results_box2 (by rfl) _ _ w.heap.size [S kk, .int .i64 (s : Int)] _ (by rfl) (((t4.set 0 (S kk)).set 1 (.int .i64 (s : Int))).all) Try.underlying76 (by rfl) (by kernel_rfl)) rfl ?_
                  have hne : ∀ a, A6 = some a → wa.heap.size ≤ a.block := fun a ha => (hown6.lt a ha).1
                  refine .inr ⟨_, _, A6, c6, take_at hno.out Hei.out, rfl, ?_, ?_, ?_⟩
                  · rw [← Hsl.out]
                    exact ((bx3.set 1 (.slice A6 nn c6)).setOther ⟨w.heap.size, 0, none⟩ (by show c ≠ w.heap.size; omega) _).setOther ⟨w.heap.size, 1, none⟩ (by show c ≠ w.heap.size; omega) _
                  · refine (OwnL.keep hown6 fun a ha => ?_).base_le (by omega)
                    have := hne a ha
                    exact (heap_setCell_other _ _ _ _ (by show a.block ≠ w.heap.size; omega)).trans ((heap_setCell_other _ _ _ _ (by show a.block ≠ w.heap.size; omega)).trans (heap_setCell_other _ _ _ _ (by show a.block ≠ c; omega)))
                  · exact (((((SameBut.refl (B := fun j => j = c) w).below hBw (fun j hj h => absurd h (by omega))).setCell _ _ (fun _ => rfl)).setCell _ _ (fun h => absurd h (by show ¬ w.heap.size < w.heap.size; omega))).setCell _ _ (fun h => absurd h (by show ¬ w.heap.size < w.heap.size; omega)))
                exact AllReadyH.nil
              exact AllReadyH.nil
            exact AllReadyH.nil
          refine AllReadyH.cons rfl (fun K hK => ?_) ?_
          · go_simp
            refine hK.out _ _ trivial (fun hHeld => ?_)
            clear hK K
            try simp only [Act.put, List.setIfInBounds_toArray, List.set_cons_zero, List.set_cons_succ]
            refine wpAnyH_take (i := 14) (v := ?_) rfl (by kernel_rfl) (by kernel_rfl) (by kernel_rfl) (fun _ _ _ h => h) (Or.inl ⟨by rfl, by (intro W hSw; (try dsimp only at hSw); go_simp; try (with_reducible rfl))⟩) (by assumption) ?_
            try simp only [Act.put, List.setIfInBounds_toArray, List.set_cons_zero, List.set_cons_succ]
            refine wpAnyH_ready (rs := [7]) (by kernel_rfl) (by simp) ?_
            refine AllReadyH.cons rfl (fun K hK => ?_) ?_
            · (go_simp; go_at_call 35; refine Calls.mono (hcp _ (by exact hBd)) ?_; rintro e w1 ⟨⟨A5, c5, rfl, hown5⟩, hb5⟩; have hB2 : Below wa.heap.size wa w1 := Below.trans (by exact hBd) (hb5.mono (by first | exact Nat.le_refl _ | (simp; done))); have b1 := (hra.box.kept hB2 hca).cell (j := 1) rfl)
              refine hK.out _ _ trivial (fun hHeld => ?_)
              clear hK K
              try simp only [Act.put, List.setIfInBounds_toArray, List.set_cons_zero, List.set_cons_succ]
              refine wpAnyH_ready (rs := [15]) (by kernel_rfl) (by simp) ?_
              refine AllReadyH.cons rfl (fun K hK => ?_) ?_
              · (refine step_app_atn (base := wa.heap.size) encG sl_G (l.drop (i + 1)) (by rfl) _ _ (by rfl) (l := l.take i) (by rfl) (by exact hown5) (by rfl) (ReadL.below hrd (by exact hB2) (Nat.le_refl _)) htk (by rw [List.length_drop]) (by simp; omega) (by simp [maxLen]; omega) (by exact hB2.size) ?_; intro A6 c6 w3 hown6 hgr6 hb6; have hB3 : Below wa.heap.size wa w3 := Below.trans hB2 (hb6.mono (Nat.le_refl _)); have bx3 := hra.box.kept hB3 hca; have b3 := bx3.cell (j := 1) rfl; have f3 := bx3.free 1)
                refine hK.out _ _ trivial (fun hHeld => ?_)
                clear hK K
                try simp only [Act.put, List.setIfInBounds_toArray, List.set_cons_zero, List.set_cons_succ]
                refine wpAnyH_take (i := 16) (v := ?_) rfl (by kernel_rfl) (by kernel_rfl) (by kernel_rfl) (fun _ _ _ h => h) (Or.inl ⟨by rfl, by (intro W hSw; (try dsimp only at hSw); go_simp; try (with_reducible rfl))⟩) (by assumption) ?_
                try simp only [Act.put, List.setIfInBounds_toArray, List.set_cons_zero, List.set_cons_succ]
                refine wpAnyH_take (i := 17) (v := ?_) rfl (by kernel_rfl) (by kernel_rfl) (by kernel_rfl) (fun _ _ _ h => h) (Or.inl ⟨by rfl, by (intro W hSw; (try dsimp only at hSw); go_simp; try (with_reducible rfl))⟩) (by assumption) ?_
                try simp only [Act.put, List.setIfInBounds_toArray, List.set_cons_zero, List.set_cons_succ]
                refine wpAnyH_ready (rs := [18]) (by kernel_rfl) (by simp) ?_
                refine AllReadyH.cons rfl (fun K hK => ?_) ?_
                · go_simp
                  refine hK.out _ _ trivial (fun hHeld => ?_)
                  clear hK K
                  try simp only [Act.put, List.setIfInBounds_toArray, List.set_cons_zero, List.set_cons_succ]
                  refine wpAnyH_done (by kernel_rfl) ?_ _
                  have t7 := (bx.kept hB3 (by omega)).setOther ⟨c, 1, none⟩ (by show wr.heap.size ≠ c; omega) (.slice A6 (i + (l.length - (i + 1))) c6)
                  have t4 := (bxa.kept hB3 (by omega)).setOther ⟨c, 1, none⟩ (by show w.heap.size ≠ c; omega) (.slice A6 (i + (l.length - (i + 1))) c6)
                  have t70 := t7.cell (j := 0) rfl
                  have t71 := t7.cell (j := 1) rfl
                  have t40 := t4.cell (j := 0) rfl
                  have t41 := t4.cell (j := 1) rfl
                  have f40 := t4.free 0
                  have f41 := t4.free 1
                  have hBw : Below w.heap.size w w3 := hB0.trans ((hbel.mono (by omega)).trans ((hB1.mono (by omega)).trans (hB3.mono (by omega))))
                  have Hsl := Lib.hid (show i + (l.length - (i + 1)) = (l.take i ++ l.drop (i + 1)).length from by rw [List.length_append, List.length_take, List.length_drop]; omega)
                  generalize i + (l.length - (i + 1)) = nn at *
                  clear t7
                  go_wp2_with fail
                  refine bodyPost_ret (results_box2 (by rfl) _ _ w.heap.size [S kk, .int .i64 (s : Int)] _ (by rfl) (((t4.set 0 (S kk)).set 1 (.int .i64 (s : Int))).all) Try.underlying76 (by rfl) (by kernel_rfl)) rfl ?_
                  have hne : ∀ a, A6 = some a → wa.heap.size ≤ a.block := fun a ha => (hown6.lt a ha).1
                  refine .inr ⟨_, _, A6, c6, take_at hno.out Hei.out, rfl, ?_, ?_, ?_⟩
                  · rw [← Hsl.out]
                    exact ((bx3.set 1 (.slice A6 nn c6)).setOther ⟨w.heap.size, 0, none⟩ (by show c ≠ w.heap.size; omega) _).setOther ⟨w.heap.size, 1, none⟩ (by show c ≠ w.heap.size; omega) _
                  · refine (OwnL.keep hown6 fun a ha => ?_).base_le (by omega)
                    have := hne a ha
                    exact (heap_setCell_other _ _ _ _ (by show a.block ≠ w.heap.size; omega)).trans ((heap_setCell_other _ _ _ _ (by show a.block ≠ w.heap.size; omega)).trans (heap_setCell_other _ _ _ _ (by show a.block ≠ c; omega)))
                  · exact (((((SameBut.refl (B := fun j => j = c) w).below hBw (fun j hj h => absurd h (by omega))).setCell _ _ (fun _ => rfl)).setCell _ _ (fun h => absurd h (by show ¬ w.heap.size < w.heap.size; omega))).setCell _ _ (fun h => absurd h (by show ¬ w.heap.size < w.heap.size; omega)))
                exact AllReadyH.nil
              exact AllReadyH.nil
            exact AllReadyH.nil
          exact AllReadyH.nil
        refine AllReadyH.cons rfl (fun K hK => ?_) ?_
        · go_simp
          refine hK.out _ _ trivial (fun hHeld => ?_)
          clear hK K
          try simp only [Act.put, List.setIfInBounds_toArray, List.set_cons_zero, List.set_cons_succ]
          refine wpAnyH_take (i := 14) (v := ?_) rfl (by kernel_rfl) (by kernel_rfl) (by kernel_rfl) (fun _ _ _ h => h) (Or.inl ⟨by rfl, by (intro W hSw; (try dsimp only at hSw); go_simp; try (with_reducible rfl))⟩) (by assumption) ?_
          try simp only [Act.put, List.setIfInBounds_toArray, List.set_cons_zero, List.set_cons_succ]
          refine wpAnyH_ready (rs := [4]) (by kernel_rfl) (by simp) ?_
          refine AllReadyH.cons rfl (fun K hK => ?_) ?_
          · go_simp
            refine hK.out _ _ trivial (fun hHeld => ?_)
            clear hK K
            try simp only [Act.put, List.setIfInBounds_toArray, List.set_cons_zero, List.set_cons_succ]
            refine wpAnyH_take (i := 6) (v := ?_) rfl (by kernel_rfl) (by kernel_rfl) (by kernel_rfl) (fun _ _ _ h => h) (Or.inl ⟨by rfl, by (intro W hSw; (try dsimp only at hSw); go_simp; try (with_reducible rfl))⟩) (by assumption) ?_
            try simp only [Act.put, List.setIfInBounds_toArray, List.set_cons_zero, List.set_cons_succ]
            refine wpAnyH_ready (rs := [7]) (by kernel_rfl) (by simp) ?_
            refine AllReadyH.cons rfl (fun K hK => ?_) ?_
            · (go_simp; go_at_call 35; refine Calls.mono (hcp _ (by exact hBd)) ?_; rintro e w1 ⟨⟨A5, c5, rfl, hown5⟩, hb5⟩; have hB2 : Below wa.heap.size wa w1 := Below.trans (by exact hBd) (hb5.mono (by first | exact Nat.le_refl _ | (simp; done))); have b1 := (hra.box.kept hB2 hca).cell (j := 1) rfl)
              refine hK.out _ _ trivial (fun hHeld => ?_)
              clear hK K
              try simp only [Act.put, List.setIfInBounds_toArray, List.set_cons_zero, List.set_cons_succ]
              refine wpAnyH_ready (rs := [15]) (by kernel_rfl) (by simp) ?_
              refine AllReadyH.cons rfl (fun K hK => ?_) ?_
              · (refine step_app_atn (base := wa.heap.size) encG sl_G (l.drop (i + 1)) (by rfl) _ _ (by rfl) (l := l.take i) (by rfl) (by exact hown5) (by rfl) (ReadL.below hrd (by exact hB2) (Nat.le_refl _)) htk (by rw [List.length_drop]) (by simp; omega) (by simp [maxLen]; omega) (by exact hB2.size) ?_; intro A6 c6 w3 hown6 hgr6 hb6; have hB3 : Below wa.heap.size wa w3 := Below.trans hB2 (hb6.mono (Nat.le_refl _)); have bx3 := hra.box.kept hB3 hca; have b3 := bx3.cell (j := 1) rfl; have f3 := bx3.free 1)
                refine hK.out _ _ trivial (fun hHeld => ?_)
                clear hK K
                try simp only [Act.put, List.setIfInBounds_toArray, List.set_cons_zero, List.set_cons_succ]
                refine wpAnyH_take (i := 16) (v := ?_) rfl (by kernel_rfl) (by kernel_rfl) (by kernel_rfl) (fun _ _ _ h => h) (Or.inl ⟨by rfl, by (intro W hSw; (try dsimp only at hSw); go_simp; try (with_reducible rfl))⟩) (by assumption) ?_
                try simp only [Act.put, List.setIfInBounds_toArray, List.set_cons_zero, List.set_cons_succ]
                refine wpAnyH_take (i := 17) (v := ?_) rfl (by kernel_rfl) (by kernel_rfl) (by kernel_rfl) (fun _ _ _ h => h) (Or.inl ⟨by rfl, by (intro W hSw; (try dsimp only at hSw); go_simp; try (with_reducible rfl))⟩) (by assumption) ?_
                try simp only [Act.put, List.setIfInBounds_toArray, List.set_cons_zero, List.set_cons_succ]
                refine wpAnyH_ready (rs := [18]) (by kernel_rfl) (by simp) ?_
                refine AllReadyH.cons rfl (fun K hK => ?_) ?_
                · go_simp
                  refine hK.out _ _ trivial (fun hHeld => ?_)
                  clear hK K
                  try simp only [Act.put, List.setIfInBounds_toArray, List.set_cons_zero, List.set_cons_succ]
                  refine wpAnyH_done (by kernel_rfl) ?_ _
                  have t7 := (bx.kept hB3 (by omega)).setOther ⟨c, 1, none⟩ (by show wr.heap.size ≠ c; omega) (.slice A6 (i + (l.length - (i + 1))) c6)
                  have t4 := (bxa.kept hB3 (by omega)).setOther ⟨c, 1, none⟩ (by show w.heap.size ≠ c; omega) (.slice A6 (i + (l.length - (i + 1))) c6)
                  have t70 := t7.cell (j := 0) rfl
                  have t71 := t7.cell (j := 1) rfl
                  have t40 := t4.cell (j := 0) rfl
                  have t41 := t4.cell (j := 1) rfl
                  have f40 := t4.free 0
                  have f41 := t4.free 1
                  have hBw : Below w.heap.size w w3 := hB0.trans ((hbel.mono (by omega)).trans ((hB1.mono (by omega)).trans (hB3.mono (by omega))))
                  have Hsl := Lib.hid (show i + (l.length - (i + 1)) = (l.take i ++ l.drop (i + 1)).length from by rw [List.length_append, List.length_take, List.length_drop]; omega)
                  generalize i + (l.length - (i + 1)) = nn at *
                  clear t7
                  go_wp2_with fail
                  refine bodyPost_ret (results_box2 (by rfl) _ _ w.heap.size [S kk, .int .i64 (s : Int)] _ (by rfl) (((t4.set 0 (S kk)).set 1 (.int .i64 (s : Int))).all) Try.underlying76 (by rfl) (by kernel_rfl)) rfl ?_
                  have hne : ∀ a, A6 = some a → wa.heap.size ≤ a.block := fun a ha => (hown6.lt a ha).1
                  refine .inr ⟨_, _, A6, c6, take_at hno.out Hei.out, rfl, ?_, ?_, ?_⟩
                  · rw [← Hsl.out]
                    exact ((bx3.set 1 (.slice A6 nn c6)).setOther ⟨w.heap.size, 0, none⟩ (by show c ≠ w.heap.size; omega) _).setOther ⟨w.heap.size, 1, none⟩ (by show c ≠ w.heap.size; omega) _
                  · refine (OwnL.keep hown6 fun a ha => ?_).base_le (by omega)
                    have := hne a ha
                    exact (heap_setCell_other _ _ _ _ (by show a.block ≠ w.heap.size; omega)).trans ((heap_setCell_other _ _ _ _ (by show a.block ≠ w.heap.size; omega)).trans (heap_setCell_other _ _ _ _ (by show a.block ≠ c; omega)))
                  · exact (((((SameBut.refl (B := fun j => j = c) w).below hBw (fun j hj h => absurd h (by omega))).setCell _ _ (fun _ => rfl)).setCell _ _ (fun h => absurd h (by show ¬ w.heap.size < w.heap.size; omega))).setCell _ _ (fun h => absurd h (by show ¬ w.heap.size < w.heap.size; omega)))
                exact AllReadyH.nil
              exact AllReadyH.nil
            exact AllReadyH.nil
          exact AllReadyH.nil
        exact AllReadyH.nil
      · have hkE : (kk == k) = false := by simpa using hk
        have Hk := Lib.hid hk
        have Hno := Lib.hid (show ∀ x ∈ l.take (i + 1), x.1 ≠ k from by
          intro x hx
          rw [List.take_add_one, Hei.out] at hx
          rcases List.mem_append.1 hx with hx | hx
          · exact hno.out x hx
          · simp only [Option.toList_some, List.mem_singleton] at hx
            subst hx
            exact Hk.out)
        clear hk
        go_wp2_with fail
        go_roundw
        case rel => exact ⟨i + 1, by go_num, by omega, Hno, hbel.trans (hB1.mono (by omega))⟩
        case measure => simp [intOf]; omega
    · have Hno := Lib.hid (show ∀ x ∈ l, x.1 ≠ k from by
        have := hno.out
        rwa [List.take_of_length_le (by omega)] at this)
      have t40 := bx1.cell (j := 0) rfl
      have t41 := bx1.cell (j := 1) rfl
      have f40 := bx1.free 0
      have f41 := bx1.free 1
      go_wp2_with fail
      refine bodyPost_ret (results_box2 (by rfl) _ _ w.heap.size [S [], .int .i64 0] _ (by rfl) (((bx1.set 0 (S [])).set 1 (.int .i64 0)).all) Try.underlying76 (by rfl) (by kernel_rfl)) rfl ?_
      refine .inl ⟨take_no Hno.out, rfl, ?_⟩
      have hBw : Below w.heap.size w wr := hB0.trans (hbel.mono (by omega))
      exact (hBw.setCell (p := ⟨w.heap.size, 0, none⟩) (Nat.le_refl _) _).setCell (p := ⟨w.heap.size, 1, none⟩) (Nat.le_refl _) _
end Go.Proofs.Ytbchkaoocobpfaa
