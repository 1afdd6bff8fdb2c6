/- Walk: (*chunk.Cutter).Write: its iterator. -/
import Derived.Test.YtbchkaoocobpfaaDoorWChk
import Derived.Test.YtbchkaoocobpfaaDoorSpecs
import Derived.RangeFuncNested
import Derived.RangeFuncBound
import Derived.RangeFuncCalls
import Derived.RangeFuncLeaves
import Derived.Shelf.Abstract
import Derived.Shelf.RegionOpen
import Derived.WalkKit
import Derived.TacticsInMore
import Derived.LoopNIn
import Derived.LoopIn
import Derived.Deep.DeepCutAuto
import Derived.Deep.RegionHeld3
import Derived.StillTailTactics
import Derived.StillTactics
namespace Go.Proofs.YtbchkaoocobpfaaDoor
open Go.RowKit Go.Larder Go.Shelf
attribute [local go_sem] Oper.semAt_some
set_option linter.unusedVariables false
set_option linter.unusedSimpArgs false
structure CutB (w : World) (g : Nat) (X : Option Nat) (sum : Nat) (rest : List UInt8) : Prop where
  ex : ∃ A c, BoxAt w g 135 [.int .u32 sum, .slice A rest.length c] ∧ OwnL encB w 0 5 A c rest ∧ blkOf A = X
structure CJ (w : World) (g : Nat) (X : Option Nat) (rec : Loop) (s : List UInt8) (st : CkS) (wr : World) : Prop where
  book : wr.heap[w.heap.size + 4]? = some (.loop rec)
  dfr : wr.heap[w.heap.size + 3]? = some (.deferred (some []))
  bout : ∃ A c, BoxAt wr w.heap.size 22 [.slice A st.2.1.length c] ∧ OwnL encS wr (w.heap.size + 5) 9 A c st.2.1
  bc : BoxAt wr (w.heap.size + 1) 117 [.pointer (some ⟨g, 0, none⟩)]
  bs : BoxAt wr (w.heap.size + 2) 9 [S s]
  bx : ∃ Y, CutB wr g Y st.1 st.2.2 ∧ (Y = X ∨ ∃ b, Y = some b ∧ w.heap.size + 5 ≤ b)
  same : SameBut (fun j => j = g ∨ X = some j) w wr
theorem CJ.size {w wr : World} {g : Nat} {X : Option Nat} {rec : Loop} {s : List UInt8} {st : CkS} (h : CJ w g X rec s st wr) : w.heap.size + 5 ≤ wr.heap.size := by
  have := (Array.getElem?_eq_some_iff.1 h.book).1; omega
theorem CJ.step {w wr W4 : World} {g sm2 : Nat} {X Y Y2 : Option Nat} {rec : Loop} {s r2 : List UInt8} {st : CkS} (h : CJ w g X rec s st wr) (hg : g < w.heap.size) (hX : ∀ b, X = some b → b < w.heap.size)
    (hY : CutB wr g Y st.1 st.2.2) (hYX : Y = X ∨ ∃ b, Y = some b ∧ w.heap.size + 5 ≤ b) (hs : SameBut (fun j => j = g ∨ Y = some j) wr W4) (hn : CutB W4 g Y2 sm2 r2) (hY2 : Y2 = Y ∨ ∃ b, Y2 = some b ∧ w.heap.size + 5 ≤ b) : CJ w g X rec s (sm2, st.2.1, r2) W4 := by
  have hsz := h.size
  have hn0 : ∀ j, w.heap.size ≤ j → j < w.heap.size + 5 → ¬ (j = g ∨ Y = some j) := by
    rintro j h1 h2 (rfl | rfl)
    · omega
    · rcases hYX with rfl | ⟨b, hb, hb2⟩
      · have := hX j rfl; omega
      · injection hb; omega
  obtain ⟨A, c, hb, hown⟩ := h.bout
  obtain ⟨A', c', hb', hown', rfl⟩ := hY
  refine ⟨(hs.block _ (by omega) (hn0 _ (by omega) (by omega))).trans h.book, (hs.block _ (by omega) (hn0 _ (by omega) (by omega))).trans h.dfr, ⟨A, c, hs.box hb (hn0 _ (by omega) (by omega)), hs.own hown ?_⟩,
    hs.box h.bc (hn0 _ (by omega) (by omega)), hs.box h.bs (hn0 _ (by omega) (by omega)), ⟨Y2, hn, ?_⟩, h.same.trans hs ?_⟩
  · rintro a rfl (he | he)
    · have := (hown.lt a rfl).1; omega
    · obtain ⟨a', rfl⟩ : ∃ a', A' = some a' := by cases A' with | none => cases he | some a' => exact ⟨a', rfl⟩
      exact OwnL.apart hown hown' (by decide) a a' rfl rfl (by simpa [blkOf] using he.symm)
  · rcases hY2 with rfl | h2
    · exact hYX
    · exact .inr h2
  · rintro j hj (rfl | he)
    · exact .inl rfl
    · rcases hYX with he2 | ⟨b, hb, hb2⟩
      · exact .inr (he2 ▸ he)
      · rw [hb] at he; injection he; omega
/-- what the round does with a piece -/
def CRnd (w : World) (g : Nat) (X : Option Nat) (rc : RecOf) (s : List UInt8) : Prop := ∀ (p : List UInt8) (st : CkS) (W : World), 16 * st.2.1.length ≤ 140737488355000 → CJ w g X (rc .ready none) s st W →
  YieldAt Fence.wide (8 - 1 - 1) Tryd.prog (w.heap.size + 4) #[S p] W fun e W' => e = .returned (.bool true) ∧ CJ w g X (rc .ready none) s (st.1, st.2.1 ++ [p], st.2.2) W'
theorem sl_u8c : SlT Tryd.prog 60 5 1 1 := SlT.mk' (z := .int .u8 0) Tryd.underlying60 (by kernel_rfl) rfl
set_option maxHeartbeats 8000000 in
set_option maxRecDepth 100000 in
theorem it_pieces (w : World) (g : Nat) (hg : g < w.heap.size) (X : Option Nat) (hX : ∀ b, X = some b → b < w.heap.size) (rc : RecOf) (s : List UInt8) (hs : s.length ≤ 140737488351232) (sum : Nat) (hsum : sum < 4294967296) (rest : List UInt8) (hrest : rest.length < 128) (hR : CRnd w g X rc s) (W1 : World) (h1 : CJ w g X (rc .ready none) s (sum, [], rest) W1) :
    CallsIn Fence.wide (8 - 1) Tryd.prog 75 (#[.func (.yield (w.heap.size + 4)) #[] #[]] ++ #[.pointer (some ⟨w.heap.size + 2, 0, none⟩), .pointer (some ⟨w.heap.size + 1, 0, none⟩)]) W1 fun e W' => (∃ v, e = .returned v) ∧
      CJ w g X (rc .ready none) s (ckAll (sum, [], rest) s) W' := by
  refine callsIn_wide.2 ?_
  have c1 := h1.bs.cell (j := 0) rfl
  go_enter Tryd.func75, Tryd.ntmps75
  go_wp2_with fail
  go_loopw [9] (fun i' wr => ∃ (k : Nat), i' = .int .i64 k ∧ k ≤ s.length ∧ CJ w g X (rc .ready none) s (ckAll (sum, [], rest) (s.take k)) wr) (fun i' _ => s.length - (intOf i').toNat)
  case atStart => exact ⟨0, rfl, by omega, h1⟩
  case round =>
    obtain ⟨k, rfl, hk, hj⟩ := hrel
    by_cases hlt : k < s.length
    · obtain ⟨x, hx, hd⟩ := drop_step hlt
      have hgx : ∀ h, s[k]'h = x := fun h => by rw [List.getElem?_eq_getElem h] at hx; exact Option.some.inj hx
      have Hst := Lib.hid (show ckAll (sum, [], rest) (s.take (k + 1)) = ckStep (ckAll (sum, [], rest) (s.take k)) x from by rw [List.take_add_one, hx]; exact ck_snoc _ _ _)
      have hrl := ck_rest (sum, [], rest) hrest (s.take k)
      have hsl : (ckAll (sum, [], rest) (s.take k)).1 < 4294967296 := by rw [ck_sum]; exact sumC_lt hsum _
      have hol := ck_len16 (sum, [], rest) (s.take k)
      simp only [List.length_nil, List.length_take] at hol
      generalize hstt : ckAll (sum, [], rest) (s.take k) = st at *
      obtain ⟨sm, out, r⟩ := st
      simp only at hrl hsl hol
      obtain ⟨Y, hcb, hYX⟩ := hj.bx
      obtain ⟨A, c, bx, hown, hY⟩ := hcb.ex
      simp only at bx hown
      have hge := fun w => (w_Gear x w).mono (fun e w' (h : _ ∧ _) => (⟨h.1, h.2.symm⟩ : _ ∧ w' = w))
      have q0 := bx.cell (j := 0) rfl
      have q1 := bx.cell (j := 1) rfl
      have f0 := bx.free 0
      have d1 := hj.bc.cell (j := 0) rfl
      have d2 := hj.bs.cell (j := 0) rfl
      have Hj := Lib.hid hj
      have hrl1 : 1 ≤ (r ++ [x]).length := by simp
      clear hx hd hstt
      go_wp2_with fail
      refine wp_region_still_tail 11 (by kernel_rfl) (by kernel_rfl) ?_
      simp only [List.take_succ_cons, List.take_zero, List.drop_succ_cons, List.drop_zero]
      repeat still_step
      still_call (hge _)
      repeat still_step
      try refine wpStill_nil ?_
      change wpList _ _ _ _ _ wr.drew
      have bx2 := (bx.set 0 (.int .u32 ((↑sm * 2 % 4294967296 + ↑(gear x)) % 4294967296))).drew
      have hap := BoxAt.apart hown bx (by decide)
      have hsb2 : SameBut (fun j => j = g) wr (wr.setCell ⟨g, 0, none⟩ (.int .u32 ((↑sm * 2 % 4294967296 + ↑(gear x)) % 4294967296))).drew := ((SameBut.refl (B := fun j => j = g) wr).setCell ⟨g, 0, none⟩ _ (fun _ => rfl)).drew
      have hown2 := hsb2.own hown (fun a ha => hap a ha)
      have bc2 := hsb2.box hj.bc (by omega)
      have bs2 := hsb2.box hj.bs (by omega)
      have hE : ((sm : Int) * 2 % 4294967296 + (gear x : Nat)) % 4294967296 = (sumF sm x : Nat) := by unfold sumF; omega
      rw [hE] at bx2 hsb2 hown2 bc2 bs2
      have bx2 : BoxAt _ g 135 [.int .u32 (sumF sm x : Nat), .slice A r.length c] := bx2
      go_wp2_with fail
      rw [hE]
      clear hE q0 q1 f0 d1 d2
      have hj2 := Lib.hid hsb2
      clear hsb2
      generalize (wr.setCell ⟨g, 0, none⟩ (.int .u32 (sumF sm x : Nat))).drew = W2 at *
      have q1 := bx2.cell (j := 1) rfl
      have d1 := bc2.cell (j := 0) rfl
      have d2 := bs2.cell (j := 0) rfl
      have hap2 := BoxAt.apart hown2 bx2 (by decide)
      have hg2 := bx2.lt
      have hneg : some g ≠ blkOf A := fun h => by cases A with | none => cases h | some a => exact hap2 a rfl (by simpa [blkOf] using h.symm)
      have e1 := (bx2.alloc (.cells #[.int .u8 x.toNat] 5)).cell (j := 1) rfl
      have e2 := (bc2.alloc (.cells #[.int .u8 x.toNat] 5)).cell (j := 0) rfl
      have e3 := (bs2.alloc (.cells #[.int .u8 x.toNat] 5)).cell (j := 0) rfl
      have hnegN : some (w.heap.size + 1) ≠ blkOf A := fun h => by
        rw [hY] at h
        rcases hYX with rfl | ⟨b, rfl, hb⟩
        · have := hX _ h.symm; omega
        · injection h; omega
      have hnegN2 : some (w.heap.size + 2) ≠ blkOf A := fun h => by
        rw [hY] at h
        rcases hYX with rfl | ⟨b, rfl, hb⟩
        · have := hX _ h.symm; omega
        · injection h; omega
      have hw2 : w.heap.size + 5 ≤ W2.heap.size := Nat.le_trans hj.size hj2.out.size
      go_cut [] from 25 to 36 (fun wx => ∃ A3 c3, BoxAt wx g 135 [.int .u32 (sumF sm x : Nat), .slice A3 (r.length + 1) c3] ∧ OwnL encB wx 0 5 A3 c3 (r ++ [x]) ∧ (blkOf A3 = blkOf A ∨ ∃ b, blkOf A3 = some b ∧ w.heap.size + 5 ≤ b) ∧ SameBut (fun j => j = g ∨ blkOf A = some j) W2 wx)
      case first =>
        refine wp_region_held_drew (S := (fun W => W.cell? ⟨w.heap.size + 1, 0, none⟩ = some (.pointer (some ⟨g, 0, none⟩)) ∧ W.cell? ⟨w.heap.size + 2, 0, none⟩ = some (S s))) (by kernel_rfl) ⟨d1, d2⟩ (fun hHeld => ?_)
        refine wpAnyH_take (i := 0) (v := ?_) rfl (by kernel_rfl) (by kernel_rfl) (by kernel_rfl) (fun _ _ _ h => h) (Or.inl ⟨by rfl, by (intro W hSw; (try dsimp only at hSw); go_simp; try (with_reducible rfl))⟩) (by assumption) ?_
        try simp only [Act.put, List.setIfInBounds_toArray, List.set_cons_zero, List.set_cons_succ]
        refine wpAnyH_take (i := 1) (v := ?_) rfl (by kernel_rfl) (by kernel_rfl) (by kernel_rfl) (fun _ _ _ h => h) (Or.inl ⟨by rfl, by (intro W hSw; (try dsimp only at hSw); go_simp; try (with_reducible rfl))⟩) (by assumption) ?_
        try simp only [Act.put, List.setIfInBounds_toArray, List.set_cons_zero, List.set_cons_succ]
        refine wpAnyH_take (i := 2) (v := ?_) rfl (by kernel_rfl) (by kernel_rfl) (by kernel_rfl) (fun _ _ _ h => h) (Or.inl ⟨by rfl, by (intro W hSw; (try dsimp only at hSw); go_simp; try (with_reducible rfl))⟩) (by assumption) ?_
        try simp only [Act.put, List.setIfInBounds_toArray, List.set_cons_zero, List.set_cons_succ]
        refine wpAnyH_take (i := 3) (v := ?_) rfl (by kernel_rfl) (by kernel_rfl) (by kernel_rfl) (fun _ _ _ h => h) (Or.inl ⟨by rfl, by (intro W hSw; (try dsimp only at hSw); go_simp; try (with_reducible rfl))⟩) (by assumption) ?_
        try simp only [Act.put, List.setIfInBounds_toArray, List.set_cons_zero, List.set_cons_succ]
        refine wpAnyH_take (i := 5) (v := ?_) rfl (by kernel_rfl) (by kernel_rfl) (by kernel_rfl) (fun _ _ _ h => h) (Or.inl ⟨by rfl, by (intro W hSw; (try dsimp only at hSw); go_simp; try (with_reducible rfl))⟩) (by assumption) ?_
        try simp only [Act.put, List.setIfInBounds_toArray, List.set_cons_zero, List.set_cons_succ]
        refine wpAnyH_take (i := 6) (v := ?_) rfl (by kernel_rfl) (by kernel_rfl) (by kernel_rfl) (fun _ _ _ h => h) (Or.inl ⟨by rfl, by (intro W hSw; (try dsimp only at hSw); go_simp; try (with_reducible rfl))⟩) (by assumption) ?_
        try simp only [Act.put, List.setIfInBounds_toArray, List.set_cons_zero, List.set_cons_succ]
        refine wpAnyH_take (i := 7) (v := ?_) rfl (by kernel_rfl) (by kernel_rfl) (by kernel_rfl) (fun _ _ _ h => h) (Or.inl ⟨by rfl, by (intro W hSw; (try dsimp only at hSw); go_simp; try (with_reducible rfl))⟩) (by assumption) ?_
        try simp only [Act.put, List.setIfInBounds_toArray, List.set_cons_zero, List.set_cons_succ]
        refine wpAnyH_ready (rs := [4, 8]) (by kernel_rfl) (by simp) ?_
        refine AllReadyH.cons rfl (fun K hK => ?_) ?_
        · go_simp
          refine hK.out _ _ ⟨d1, d2⟩ (fun hHeld => ?_)
          clear hK K
          try simp only [Act.put, List.setIfInBounds_toArray, List.set_cons_zero, List.set_cons_succ]
          refine wpAnyH_ready (rs := [8]) (by kernel_rfl) (by simp) ?_
          refine AllReadyH.cons rfl (fun K hK => ?_) ?_
          · go_simp
            refine hK.out _ _ ⟨e2, e3⟩ (fun hHeld => ?_)
            clear hK K
            try simp only [Act.put, List.setIfInBounds_toArray, List.set_cons_zero, List.set_cons_succ]
            refine wpAnyH_ready (rs := [9]) (by kernel_rfl) (by simp) ?_
            refine AllReadyH.cons rfl (fun K hK => ?_) ?_
            · (refine step_app_at (l := r) (base := 0) encB sl_u8c [x] (by rfl) _ _ (by rfl) (by rfl) (by first | exact hown2.alloc _ | exact OwnL.alloc (OwnL.drew hown2) _) (by rfl) (by first | exact ReadL.lit (E := encB) _ #[.int .u8 x.toNat] _ [x] rfl) (by simp; omega) (by simp [maxLen]; omega) (by exact Nat.zero_le _) ?_; intro A3 c3 w3 hown3 hgr3 hform3 hb3; have bx3 : BoxAt w3 g 135 [.int .u32 (sumF sm x : Nat), .slice A r.length c] := (hgr3.block g (by first | exact hg2 | exact Nat.lt_of_lt_of_le hg2 (by simp)) hneg).trans (by first | exact bx2 | exact bx2.alloc _); have f3 := bx3.free 1; have q3 := bx3.cell (j := 1) rfl; have bc3 : BoxAt w3 (w.heap.size + 1) _ _ := (hgr3.block (w.heap.size + 1) (by first | exact bc2.lt | exact Nat.lt_of_lt_of_le bc2.lt (by simp)) hnegN).trans (by first | exact bc2 | exact bc2.alloc _); have d3 := bc3.cell (j := 0) rfl; have bs3 : BoxAt w3 (w.heap.size + 2) _ _ := (hgr3.block (w.heap.size + 2) (by first | exact bs2.lt | exact Nat.lt_of_lt_of_le bs2.lt (by simp)) hnegN2).trans (by first | exact bs2 | exact bs2.alloc _); have d4 := bs3.cell (j := 0) rfl; have d5 := (bc3.setOther ⟨g, 1, none⟩ (by show w.heap.size + 1 ≠ g; omega) (.slice A3 (r.length + 1) c3)).cell (j := 0) rfl; have d6 := (bs3.setOther ⟨g, 1, none⟩ (by show w.heap.size + 2 ≠ g; omega) (.slice A3 (r.length + 1) c3)).cell (j := 0) rfl; have hsb3 : SameBut (fun j => j = g ∨ blkOf A = some j) W2 w3 := SameBut.grown (by first | exact ((SameBut.refl W2).alloc _).drew | exact (SameBut.refl W2).drew.alloc _) hgr3 (fun j _ h => .inr h))
              refine hK.out _ _ ⟨d3, d4⟩ (fun hHeld => ?_)
              clear hK K
              try simp only [Act.put, List.setIfInBounds_toArray, List.set_cons_zero, List.set_cons_succ]
              refine wpAnyH_take (i := 10) (v := ?_) rfl (by kernel_rfl) (by kernel_rfl) (by kernel_rfl) (fun _ _ _ h => h) (Or.inl ⟨by rfl, by (intro W hSw; (try dsimp only at hSw); go_simp; try (with_reducible rfl))⟩) (by assumption) ?_
              try simp only [Act.put, List.setIfInBounds_toArray, List.set_cons_zero, List.set_cons_succ]
              refine wpAnyH_take (i := 11) (v := ?_) rfl (by kernel_rfl) (by kernel_rfl) (by kernel_rfl) (fun _ _ _ h => h) (Or.inl ⟨by rfl, by (intro W hSw; (try dsimp only at hSw); go_simp; try (with_reducible rfl))⟩) (by assumption) ?_
              try simp only [Act.put, List.setIfInBounds_toArray, List.set_cons_zero, List.set_cons_succ]
              refine wpAnyH_ready (rs := [12]) (by kernel_rfl) (by simp) ?_
              refine AllReadyH.cons rfl (fun K hK => ?_) ?_
              · go_simp
                refine hK.out _ _ ⟨d5, d6⟩ (fun hHeld => ?_)
                clear hK K
                try simp only [Act.put, List.setIfInBounds_toArray, List.set_cons_zero, List.set_cons_succ]
                refine wpAnyH_done (by kernel_rfl) ?_ _
                go_wp2_with fail
                go_meet
                case rel => exact ⟨A3, c3, bx3.set 1 (.slice A3 (r.length + 1) c3), (SameBut.setCell (B := fun j => j = g) (SameBut.refl w3) ⟨g, 1, none⟩ _ (fun _ => rfl)).own hown3 (BoxAt.apart hown3 bx3 (by decide)), hform3.imp id (fun h => ⟨_, h, by first | exact hw2 | exact Nat.le_trans hw2 (by simp)⟩), hsb3.setCell ⟨g, 1, none⟩ _ (fun _ => .inl rfl)⟩
              exact AllReadyH.nil
            exact AllReadyH.nil
          exact AllReadyH.nil
        refine AllReadyH.cons rfl (fun K hK => ?_) ?_
        · go_simp
          refine hK.out _ _ ⟨e2, e3⟩ (fun hHeld => ?_)
          clear hK K
          try simp only [Act.put, List.setIfInBounds_toArray, List.set_cons_zero, List.set_cons_succ]
          refine wpAnyH_ready (rs := [4]) (by kernel_rfl) (by simp) ?_
          refine AllReadyH.cons rfl (fun K hK => ?_) ?_
          · go_simp
            refine hK.out _ _ ⟨e2, e3⟩ (fun hHeld => ?_)
            clear hK K
            try simp only [Act.put, List.setIfInBounds_toArray, List.set_cons_zero, List.set_cons_succ]
            refine wpAnyH_ready (rs := [9]) (by kernel_rfl) (by simp) ?_
            refine AllReadyH.cons rfl (fun K hK => ?_) ?_
            · (refine step_app_at (l := r) (base := 0) encB sl_u8c [x] (by rfl) _ _ (by rfl) (by rfl) (by first | exact hown2.alloc _ | exact OwnL.alloc (OwnL.drew hown2) _) (by rfl) (by first | exact ReadL.lit (E := encB) _ #[.int .u8 x.toNat] _ [x] rfl) (by simp; omega) (by simp [maxLen]; omega) (by exact Nat.zero_le _) ?_; intro A3 c3 w3 hown3 hgr3 hform3 hb3; have bx3 : BoxAt w3 g 135 [.int .u32 (sumF sm x : Nat), .slice A r.length c] := (hgr3.block g (by first | exact hg2 | exact Nat.lt_of_lt_of_le hg2 (by simp)) hneg).trans (by first | exact bx2 | exact bx2.alloc _); have f3 := bx3.free 1; have q3 := bx3.cell (j := 1) rfl; have bc3 : BoxAt w3 (w.heap.size + 1) _ _ := (hgr3.block (w.heap.size + 1) (by first | exact bc2.lt | exact Nat.lt_of_lt_of_le bc2.lt (by simp)) hnegN).trans (by first | exact bc2 | exact bc2.alloc _); have d3 := bc3.cell (j := 0) rfl; have bs3 : BoxAt w3 (w.heap.size + 2) _ _ := (hgr3.block (w.heap.size + 2) (by first | exact bs2.lt | exact Nat.lt_of_lt_of_le bs2.lt (by simp)) hnegN2).trans (by first | exact bs2 | exact bs2.alloc _); have d4 := bs3.cell (j := 0) rfl; have d5 := (bc3.setOther ⟨g, 1, none⟩ (by show w.heap.size + 1 ≠ g; omega) (.slice A3 (r.length + 1) c3)).cell (j := 0) rfl; have d6 := (bs3.setOther ⟨g, 1, none⟩ (by show w.heap.size + 2 ≠ g; omega) (.slice A3 (r.length + 1) c3)).cell (j := 0) rfl; have hsb3 : SameBut (fun j => j = g ∨ blkOf A = some j) W2 w3 := SameBut.grown (by first | exact ((SameBut.refl W2).alloc _).drew | exact (SameBut.refl W2).drew.alloc _) hgr3 (fun j _ h => .inr h))
              refine hK.out _ _ ⟨d3, d4⟩ (fun hHeld => ?_)
              clear hK K
              try simp only [Act.put, List.setIfInBounds_toArray, List.set_cons_zero, List.set_cons_succ]
              refine wpAnyH_take (i := 10) (v := ?_) rfl (by kernel_rfl) (by kernel_rfl) (by kernel_rfl) (fun _ _ _ h => h) (Or.inl ⟨by rfl, by (intro W hSw; (try dsimp only at hSw); go_simp; try (with_reducible rfl))⟩) (by assumption) ?_
              try simp only [Act.put, List.setIfInBounds_toArray, List.set_cons_zero, List.set_cons_succ]
              refine wpAnyH_take (i := 11) (v := ?_) rfl (by kernel_rfl) (by kernel_rfl) (by kernel_rfl) (fun _ _ _ h => h) (Or.inl ⟨by rfl, by (intro W hSw; (try dsimp only at hSw); go_simp; try (with_reducible rfl))⟩) (by assumption) ?_
              try simp only [Act.put, List.setIfInBounds_toArray, List.set_cons_zero, List.set_cons_succ]
              refine wpAnyH_ready (rs := [12]) (by kernel_rfl) (by simp) ?_
              refine AllReadyH.cons rfl (fun K hK => ?_) ?_
              · go_simp
                refine hK.out _ _ ⟨d5, d6⟩ (fun hHeld => ?_)
                clear hK K
                try simp only [Act.put, List.setIfInBounds_toArray, List.set_cons_zero, List.set_cons_succ]
                refine wpAnyH_done (by kernel_rfl) ?_ _
                go_wp2_with fail
                go_meet
                case rel => exact ⟨A3, c3, bx3.set 1 (.slice A3 (r.length + 1) c3), (SameBut.setCell (B := fun j => j = g) (SameBut.refl w3) ⟨g, 1, none⟩ _ (fun _ => rfl)).own hown3 (BoxAt.apart hown3 bx3 (by decide)), hform3.imp id (fun h => ⟨_, h, by first | exact hw2 | exact Nat.le_trans hw2 (by simp)⟩), hsb3.setCell ⟨g, 1, none⟩ _ (fun _ => .inl rfl)⟩
              exact AllReadyH.nil
            exact AllReadyH.nil
          exact AllReadyH.nil
        exact AllReadyH.nil
      case rest =>
        obtain ⟨A3, c3, bx4, hown4, hform4, hsb4⟩ := hcut
        have hsbw : SameBut (fun j => j = g ∨ Y = some j) wr wc := by rw [← hY]; exact SameBut.trans (hj2.out.mono (fun j _ h => .inl h)) hsb4 (fun j _ h => h)
        have hcut4 : CutB wc g (blkOf A3) (sumF sm x) (r ++ [x]) := ⟨A3, c3, by rw [List.length_append]; exact bx4, hown4, rfl⟩
        have hC4 := Lib.hid (hj.step hg hX hcb hYX hsbw hcut4 (by rw [← hY]; exact hform4))
        have hform5 : blkOf A3 = X ∨ ∃ b, blkOf A3 = some b ∧ w.heap.size + 5 ≤ b := by
          rcases hform4 with h | h
          · rw [h, hY]; exact hYX
          · exact .inr h
        have bc4 := hC4.out.bc
        obtain ⟨g4, rfl, _, _⟩ := hown4.some_ (by simp)
        have q0 := bx4.cell (j := 0) rfl
        have q1 := bx4.cell (j := 1) rfl
        have f1 := bx4.free 1
        have d1 := bc4.cell (j := 0) rfl
        have hcv : (convert 60 9 (.slice (some ⟨g4, 0, none⟩) (r.length + 1) c3)).run Tryd.prog wc = .ok (S (r ++ [x])) wc := by
          have h := run_bytes_str (P := Tryd.prog) 60 9 Tryd.underlying60 Tryd.underlying5 Tryd.underlying9 hown4.read c3
          rwa [List.length_append] at h
        have Hcb := Lib.hid hcut4
        clear e1 e2 e3 hneg hnegN hnegN2 hap2 bx2 bc2 bs2 hown2 hj2 hsb4 hsbw hcut4 hform4 Hj hj bx hown hcb hYX hY d2 hap
        by_cases h16 : r.length + 1 < 16
        · have hI : (r.length : Int) + 1 < 16 := by omega
          have Hq := Lib.hid (show ckStep (sm, out, r) x = (sumF sm x, out, r ++ [x]) from ck_no (isCut_lt h16))
          go_wp2_with fail
          go_roundw
          case rel => exact ⟨k + 1, by go_num, by omega, by rw [Hst.out, Hq.out]; exact hC4.out⟩
          case measure => simp [intOf]; omega
        · have hI : ¬ (r.length : Int) + 1 < 16 := by omega
          obtain ⟨n, hn⟩ : ∃ n, sumF sm x = n := ⟨_, rfl⟩
          have Hn := Lib.hid hn
          rw [hn] at q0 bx4
          by_cases hs7 : n < 134217728
          · have hs7I : (n : Int) / 134217728 = 0 := by omega
            have Hq := Lib.hid (show ckStep (sm, out, r) x = (sumF sm x, out ++ [r ++ [x]], []) from ck_yes (isCut_sum (by show 16 ≤ r.length + 1; omega) (by show sumF sm x < _; rw [hn]; exact hs7)))
            clear hn
            go_wp2_with fail
            refine wp_region_still_tail 6 (by kernel_rfl) (by kernel_rfl) ?_
            simp only [List.take_succ_cons, List.take_zero, List.drop_succ_cons, List.drop_zero]
            repeat still_step
            try refine wpStill_nil ?_
            change wpList _ _ _ _ _ wc.drew
            have bx5 := bx4.set 1 (.slice (some ⟨g4, 0, none⟩) 0 c3)
            have hap5 := BoxAt.apart hown4 bx4 (by decide)
            have hsb5 : SameBut (fun j => j = g) wc (wc.setCell ⟨g, 1, none⟩ (.slice (some ⟨g4, 0, none⟩) 0 c3)).drew := ((SameBut.refl (B := fun j => j = g) wc).setCell ⟨g, 1, none⟩ _ (fun _ => rfl)).drew
            have hcut5 : CutB (wc.setCell ⟨g, 1, none⟩ (.slice (some ⟨g4, 0, none⟩) 0 c3)).drew g (blkOf (some ⟨g4, 0, none⟩)) n [] := ⟨some ⟨g4, 0, none⟩, c3, bx5, hsb5.own ((hown4.take 0 (by omega))) (fun a ha => hap5 a ha), rfl⟩
            have hC5 := CJ.step hC4.out hg hX Hcb.out hform5 (hsb5.mono (fun j _ h => .inl h)) hcut5 (.inl rfl)
            have hy := hR (r ++ [x]) _ _ (by show 16 * out.length ≤ 140737488355000; omega) hC5
            obtain ⟨fn, tmps, assign, body, hy1, hy2⟩ := hy
            go_upto_region 9 with fail
            refine (wpIn_wide (n := 8 - 1)).1 ?_
            gi_wp2
            refine hy2.mono ?_
            rintro e W' ⟨rfl, hC6⟩
            gi_wp2
            go_wp2_with fail
            go_roundw
            case rel => exact ⟨k + 1, by go_num, by omega, by rw [Hst.out, Hq.out, Hn.out]; exact hC6⟩
            case measure => simp [intOf]; omega

          · have hs7I : ¬ (n : Int) / 134217728 = 0 := by omega
            by_cases h128 : r.length + 1 < 128
            · have hI2 : (r.length : Int) + 1 < 128 := by omega
              have Hq := Lib.hid (show ckStep (sm, out, r) x = (sumF sm x, out, r ++ [x]) from ck_no (isCut_no (by show ¬ sumF sm x < _; rw [hn]; exact hs7) (by show r.length + 1 ≠ 128; omega)))
              have hs7J : (!((n : Int) / 134217728 == 0)) = true := by simp; exact hs7I
              clear hn
              go_wp2_with fail
              go_roundw
              case rel => exact ⟨k + 1, by go_num, by omega, by rw [Hst.out, Hq.out]; exact hC4.out⟩
              case measure => simp [intOf]; omega
            · have hI2 : ¬ (r.length : Int) + 1 < 128 := by omega
              have Hq := Lib.hid (show ckStep (sm, out, r) x = (sumF sm x, out ++ [r ++ [x]], []) from ck_yes (by show isCut (r.length + 1) _ = true; rw [show r.length + 1 = 128 from by omega]; exact isCut_128))
              clear hn
              go_wp2_with fail
              refine wp_region_still_tail 6 (by kernel_rfl) (by kernel_rfl) ?_
              simp only [List.take_succ_cons, List.take_zero, List.drop_succ_cons, List.drop_zero]
              repeat still_step
              try refine wpStill_nil ?_
              change wpList _ _ _ _ _ wc.drew
              have bx5 := bx4.set 1 (.slice (some ⟨g4, 0, none⟩) 0 c3)
              have hap5 := BoxAt.apart hown4 bx4 (by decide)
              have hsb5 : SameBut (fun j => j = g) wc (wc.setCell ⟨g, 1, none⟩ (.slice (some ⟨g4, 0, none⟩) 0 c3)).drew := ((SameBut.refl (B := fun j => j = g) wc).setCell ⟨g, 1, none⟩ _ (fun _ => rfl)).drew
              have hcut5 : CutB (wc.setCell ⟨g, 1, none⟩ (.slice (some ⟨g4, 0, none⟩) 0 c3)).drew g (blkOf (some ⟨g4, 0, none⟩)) n [] := ⟨some ⟨g4, 0, none⟩, c3, bx5, hsb5.own ((hown4.take 0 (by omega))) (fun a ha => hap5 a ha), rfl⟩
              have hC5 := CJ.step hC4.out hg hX Hcb.out hform5 (hsb5.mono (fun j _ h => .inl h)) hcut5 (.inl rfl)
              have hy := hR (r ++ [x]) _ _ (by show 16 * out.length ≤ 140737488355000; omega) hC5
              obtain ⟨fn, tmps, assign, body, hy1, hy2⟩ := hy
              go_upto_region 9 with fail
              refine (wpIn_wide (n := 8 - 1)).1 ?_
              gi_wp2
              refine hy2.mono ?_
              rintro e W' ⟨rfl, hC6⟩
              gi_wp2
              go_wp2_with fail
              go_roundw
              case rel => exact ⟨k + 1, by go_num, by omega, by rw [Hst.out, Hq.out, Hn.out]; exact hC6⟩
              case measure => simp [intOf]; omega

    · obtain rfl : k = s.length := by omega
      rw [List.take_length] at hj
      go_wp2_with fail
      go_end0
      exact ⟨⟨_, rfl⟩, hj⟩
end Go.Proofs.YtbchkaoocobpfaaDoor
