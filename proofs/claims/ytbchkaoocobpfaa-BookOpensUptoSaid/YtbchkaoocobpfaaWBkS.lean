/- Walk: books: one step of both. -/
import Derived.Test.YtbchkaoocobpfaaWBkT
import Derived.Test.YtbchkaoocobpfaaWStp
import Derived.Test.YtbchkaoocobpfaaWEq
import Derived.Deep.RegionHeld3
import Derived.Laws.Rows
namespace Go.Proofs.Ytbchkaoocobpfaa
open Go.RowKit Go.Larder
set_option linter.unusedVariables false
set_option linter.unusedSimpArgs false
variable {w w' w1 w2 : World} {b gm c cap : Nat} {p v : Value} {A : Option Addr} {m : Kv} {L : List Ent}
theorem StepP.from_ (h : Both w b gm c v A m L) (hs : Below w.heap.size w w1) (h2 : StepP w1 b gm c v A L w') : StepP w b gm c v A L w' := by
  obtain ⟨v', A', m', L', hb, hl, hn, hsb⟩ := h2
  exact ⟨v', A', m', L', hb, hl, fun j hj => (hn j hj).imp id (fun h0 => Nat.le_trans hs.size h0), ((SameBut.refl w).keep hs).trans hsb fun _ _ h => h⟩
theorem BkAfter.box {n : Nat} {img : List UInt8} {gx : Nat} {T : TypeId} {cs : List Value} (h : BkAfter w b gm v m n img w') (hb : BoxAt w gx T cs) (hg : ∀ j, FB b gm v j → j < gx) : BoxAt w' gx T cs := by
  obtain ⟨_, _, _, _, hs⟩ := h
  exact hs.box hb fun h0 => absurd (hg _ h0) (Nat.lt_irrefl _)
theorem RAfter.box {L' : List Ent} {gx : Nat} {T : TypeId} {cs : List Value} (h : RAfter w c A L' w') (hb : BoxAt w gx T cs) (hg : ∀ j, FR c A j → j < gx) : BoxAt w' gx T cs := by
  obtain ⟨_, _, _, _, hs⟩ := h
  exact hs.box hb fun h0 => absurd (hg _ h0) (Nat.lt_irrefl _)
theorem BkAfter.ref {n : Nat} {img : List UInt8} {m' : Kv} (h : BkAfter w b gm v m' n img w') (hr : RefB w c A cap L) (hd : ∀ j, FB b gm v j → ¬ FR c A j) : RefB w' c A cap L := by
  obtain ⟨_, _, _, _, hs⟩ := h
  exact hr.but hs fun j hj hf => hd j hf hj
set_option maxHeartbeats 1000000 in
/-- the keys of both -/
theorem keys_eq (h : Both w b gm c v A m L) (hl : L.length ≤ 1048576) :
    Calls Try.prog 25 #[.pointer (some ⟨b, 0, none⟩)] w (KeysP w (sortL (keysM m))) ∧
    (∀ w1, Below w.heap.size w w1 → Calls Try.prog 26 #[.pointer (some ⟨c, 0, none⟩)] w1 (KeysP w1 (sortL (keysM m)))) ∧
    (∀ w1 w2 A1 A2 c1 c2, ReadL encL w1 w1.heap.size A1 (sortL (keysM m)) → Below w1.heap.size w1 w2 → ReadL encL w2 w2.heap.size A2 (sortL (keysM m)) → Calls Try.prog 11 #[.slice A1 (sortL (keysM m)).length c1, .slice A2 (sortL (keysM m)).length c2] w2 fun e w' => e = .returned (.bool true) ∧ w2 = w') := by
  obtain ⟨p, hb⟩ := h.bk
  obtain ⟨cap, hr⟩ := h.rf
  refine ⟨w_BKeys (fun k x hx => h.R.keyLen hx) h.R.few hb, fun w1 hb1 => ?_, fun w1 w2 A1 A2 c1 c2 h1 hb2 h2 => ?_⟩
  · rw [h.R.keys]
    exact w_RKeys (by omega) h.R.ok (by rw [← h.R.count]; exact h.R.few) (hr.keep hb1)
  · refine w_Eq_string (sortL (keysM m)) ?_ A1 A2 c1 c2 w1.heap.size w2.heap.size w2 (h1.below hb2 (Nat.le_refl _)) h2
    rw [sortL_len]
    have := h.R.few
    simp only [keysM, List.length_map]
    omega
set_option maxHeartbeats 8000000 in
set_option maxRecDepth 100000 in
theorem w_bookStep0 (x : Stp) (hx : -9223372036854775808 ≤ x.kd ∧ x.kd ≤ 9223372036854775807) (hs : x.s.length ≤ 1048576) (ht : x.t.length ≤ 1048576) (hl : L.length ≤ 1048575) (hr6 : x.kd % 6 = 0) (h : Both w b gm c v A m L) :
    Calls Try.prog 21 #[.pointer (some ⟨b, 0, none⟩), .pointer (some ⟨c, 0, none⟩), .agg (encSt.enc x).toArray] w fun e w' => e = .returned (.bool true) ∧ StepP w b gm c v A L w' := by
  have hof := fun W => w_Of x 6 (by omega) (by omega) hx W
  have hr6' : x.kd % ((6 : Nat) : Int) = 0 := hr6
  rw [hr6'] at hof
  clear hr6'
  obtain ⟨xs, hxs⟩ : ∃ xs, encSt.enc x = xs := ⟨_, rfl⟩
  have hlen : xs.length = 22 := by rw [← hxs]; exact encSt.len x
  have hx3 : xs[3]? = some (S x.s) := by rw [← hxs]; rfl
  have hx4 : xs[4]? = some (S x.t) := by rw [← hxs]; rfl
  have hsz : ((Try.prog).info? 39).map (·.size) = some xs.toArray.size := by rw [List.size_toArray, hlen]; kernel_rfl
  rw [hxs] at hof ⊢
  generalize x.s = s at *
  generalize x.t = t at *
  have hofx : ∀ W, Calls Try.prog 8 #[.agg xs.toArray, .int .i64 6] W fun e w' => e = .returned (.int .i64 0) ∧ Below W.heap.size W w' := hof
  clear hof hxs hlen
  have bx := BoxAt.new w xs 39
  have hB := (Below.refl w.heap.size w).alloc (Nat.le_refl _) (.cells xs.toArray 39)
  have hflt := fun j hj => h.flt (j := j) hj
  have Hflt := Lib.hid hflt
  clear hflt
  go_enter Try.func21, Try.ntmps21
  go_upto_region 1 with fail
  generalize w.alloc (.cells xs.toArray 39) = w1 at *
  generalize hgx : w.heap.size = gx at *
  go_wp2_with (refine wpList_load_row (ty := 39) rfl _ rfl gx rfl 39 xs.toArray (0, 0) _ bx Try.underlying39 rfl hsz ?_)
  refine Calls.mono (hofx _) ?_
  rintro e w2 ⟨rfl, hb2⟩
  clear hofx hsz
  have bx2 := bx.keep hb2
  have hB2 : Below w.heap.size w w2 := by rw [hgx]; exact hB.trans (hb2.mono (by have := hB.size; omega))
  have h2 := h.keep hB2
  have hbd := hB2.size
  clear bx hb2 hB
  clear hr6
  have Hs := Lib.hid hs
  have Ht := Lib.hid ht
  clear hx hs ht
  obtain ⟨p, hb⟩ := h2.bk
  obtain ⟨cap, hr⟩ := h2.rf
  have hbD := hb.keep (Below.refl _ w2).drew
  have hrD := hr.keep (Below.refl _ w2).drew
  have h2D := h2.keep (Below.refl _ w2).drew
  have hp := w_BSetA s t (by have := Hs.out; omega) (by have := Ht.out; omega) h2.R (by omega) hbD
  have hf := fun (W : World) (hW : RefB W c A cap L) => w_RSetA s t (by have := Hs.out; omega) (by have := Ht.out; omega) h2.R (by omega) hW
  have hR' := setRb h2.R s t
  have hll := setLs_len m L s t
  generalize setE m s t = ec at *
  generalize setM m s t = m' at *
  generalize setLs m L s t = L' at *
  have Hap := Lib.hid h2.apart
  have bxD := bx2.drew
  have q3 := bxD.cell (j := 3) hx3
  have q4 := bxD.cell (j := 4) hx4
  have HR' := Lib.hid hR'
  have Hll := Lib.hid hll
  clear hR' hll hb hr h2
  go_upto_region 4 with fail
  go_region_held3 (fun W => W.cell? ⟨gx, 3, none⟩ = some (S s) ∧ W.cell? ⟨gx, 4, none⟩ = some (S t)) ((first | exact ⟨q3, q4⟩ | exact ⟨u3, u4⟩ | exact ⟨v3, v4⟩)) ((first
    | (go_at_call 24; (with_reducible refine Calls.mono hp ?_); rintro e w4 ⟨rfl, h4⟩; have bx4 := BkAfter.box h4 bxD (fun j hj => by have := Hflt.out j (.inl hj); omega); have hr4 := BkAfter.ref h4 hrD Hap.out; have u3 := bx4.cell (j := 3) hx3; have u4 := bx4.cell (j := 4) hx4)
    | (go_at_call 37; (with_reducible refine Calls.mono (hf w4 hr4) ?_); rintro e w5 ⟨rfl, h5⟩; have bx5 := RAfter.box h5 bx4 (fun j hj => by have := Hflt.out j (.inr hj); omega); have v3 := bx5.cell (j := 3) hx3; have v4 := bx5.cell (j := 4) hx4)))
  all_goals
    have hst := Both.step h2D h4 (fun cap' _ => h5) HR'.out Hll.out
    have hfin := StepP.from_ h (hB2.drew) hst
    clear hst h4 h5 bx4 bx5 bxD bx2 hr4 u3 u4 v3 v4 q3 q4
    try go_wp2_with fail
    go_ret
    exact ⟨by simp, hfin⟩
set_option maxHeartbeats 8000000 in
set_option maxRecDepth 100000 in
theorem w_bookStep1 (x : Stp) (hx : -9223372036854775808 ≤ x.kd ∧ x.kd ≤ 9223372036854775807) (hs : x.s.length ≤ 1048576) (ht : x.t.length ≤ 1048576) (hl : L.length ≤ 1048575) (hr6 : x.kd % 6 = 1) (h : Both w b gm c v A m L) :
    Calls Try.prog 21 #[.pointer (some ⟨b, 0, none⟩), .pointer (some ⟨c, 0, none⟩), .agg (encSt.enc x).toArray] w fun e w' => e = .returned (.bool true) ∧ StepP w b gm c v A L w' := by
  have hof := fun W => w_Of x 6 (by omega) (by omega) hx W
  have hr6' : x.kd % ((6 : Nat) : Int) = 1 := hr6
  rw [hr6'] at hof
  clear hr6'
  obtain ⟨xs, hxs⟩ : ∃ xs, encSt.enc x = xs := ⟨_, rfl⟩
  have hlen : xs.length = 22 := by rw [← hxs]; exact encSt.len x
  have hx3 : xs[3]? = some (S x.s) := by rw [← hxs]; rfl
  have hx4 : xs[4]? = some (S x.t) := by rw [← hxs]; rfl
  have hsz : ((Try.prog).info? 39).map (·.size) = some xs.toArray.size := by rw [List.size_toArray, hlen]; kernel_rfl
  rw [hxs] at hof ⊢
  generalize x.s = s at *
  generalize x.t = t at *
  have hofx : ∀ W, Calls Try.prog 8 #[.agg xs.toArray, .int .i64 6] W fun e w' => e = .returned (.int .i64 1) ∧ Below W.heap.size W w' := hof
  clear hof hxs hlen
  have bx := BoxAt.new w xs 39
  have hB := (Below.refl w.heap.size w).alloc (Nat.le_refl _) (.cells xs.toArray 39)
  have hflt := fun j hj => h.flt (j := j) hj
  have Hflt := Lib.hid hflt
  clear hflt
  go_enter Try.func21, Try.ntmps21
  go_upto_region 1 with fail
  generalize w.alloc (.cells xs.toArray 39) = w1 at *
  generalize hgx : w.heap.size = gx at *
  go_wp2_with (refine wpList_load_row (ty := 39) rfl _ rfl gx rfl 39 xs.toArray (0, 0) _ bx Try.underlying39 rfl hsz ?_)
  refine Calls.mono (hofx _) ?_
  rintro e w2 ⟨rfl, hb2⟩
  clear hofx hsz
  have bx2 := bx.keep hb2
  have hB2 : Below w.heap.size w w2 := by rw [hgx]; exact hB.trans (hb2.mono (by have := hB.size; omega))
  have h2 := h.keep hB2
  have hbd := hB2.size
  clear bx hb2 hB
  clear hr6
  have Hs := Lib.hid hs
  have Ht := Lib.hid ht
  clear hx hs ht
  obtain ⟨p, hb⟩ := h2.bk
  obtain ⟨cap, hr⟩ := h2.rf
  have hbD := hb.keep (Below.refl _ w2).drew
  have hrD := hr.keep (Below.refl _ w2).drew
  have h2D := h2.keep (Below.refl _ w2).drew
  have hp := w_BSetA s t (by have := Hs.out; omega) (by have := Ht.out; omega) h2.R (by omega) hbD
  have hf := fun (W : World) (hW : RefB W c A cap L) => w_RSetA s t (by have := Hs.out; omega) (by have := Ht.out; omega) h2.R (by omega) hW
  have hR' := setRb h2.R s t
  have hll := setLs_len m L s t
  generalize setE m s t = ec at *
  generalize setM m s t = m' at *
  generalize setLs m L s t = L' at *
  have Hap := Lib.hid h2.apart
  have bxD := bx2.drew
  have q3 := bxD.cell (j := 3) hx3
  have q4 := bxD.cell (j := 4) hx4
  have HR' := Lib.hid hR'
  have Hll := Lib.hid hll
  clear hR' hll hb hr h2
  go_upto_region 4 with fail
  go_region_held3 (fun W => W.cell? ⟨gx, 3, none⟩ = some (S s) ∧ W.cell? ⟨gx, 4, none⟩ = some (S t)) ((first | exact ⟨q3, q4⟩ | exact ⟨u3, u4⟩ | exact ⟨v3, v4⟩)) ((first
    | (go_at_call 24; (with_reducible refine Calls.mono hp ?_); rintro e w4 ⟨rfl, h4⟩; have bx4 := BkAfter.box h4 bxD (fun j hj => by have := Hflt.out j (.inl hj); omega); have hr4 := BkAfter.ref h4 hrD Hap.out; have u3 := bx4.cell (j := 3) hx3; have u4 := bx4.cell (j := 4) hx4)
    | (go_at_call 37; (with_reducible refine Calls.mono (hf w4 hr4) ?_); rintro e w5 ⟨rfl, h5⟩; have bx5 := RAfter.box h5 bx4 (fun j hj => by have := Hflt.out j (.inr hj); omega); have v3 := bx5.cell (j := 3) hx3; have v4 := bx5.cell (j := 4) hx4)))
  all_goals
    have hst := Both.step h2D h4 (fun cap' _ => h5) HR'.out Hll.out
    have hfin := StepP.from_ h (hB2.drew) hst
    clear hst h4 h5 bx4 bx5 bxD bx2 hr4 u3 u4 v3 v4 q3 q4
    try go_wp2_with fail
    go_ret
    exact ⟨by simp, hfin⟩
set_option maxHeartbeats 8000000 in
set_option maxRecDepth 100000 in
theorem w_bookStep2 (x : Stp) (hx : -9223372036854775808 ≤ x.kd ∧ x.kd ≤ 9223372036854775807) (hs : x.s.length ≤ 1048576) (ht : x.t.length ≤ 1048576) (hl : L.length ≤ 1048575) (hr6 : x.kd % 6 = 2) (h : Both w b gm c v A m L) :
    Calls Try.prog 21 #[.pointer (some ⟨b, 0, none⟩), .pointer (some ⟨c, 0, none⟩), .agg (encSt.enc x).toArray] w fun e w' => e = .returned (.bool true) ∧ StepP w b gm c v A L w' := by
  have hof := fun W => w_Of x 6 (by omega) (by omega) hx W
  have hr6' : x.kd % ((6 : Nat) : Int) = 2 := hr6
  rw [hr6'] at hof
  clear hr6'
  obtain ⟨xs, hxs⟩ : ∃ xs, encSt.enc x = xs := ⟨_, rfl⟩
  have hlen : xs.length = 22 := by rw [← hxs]; exact encSt.len x
  have hx3 : xs[3]? = some (S x.s) := by rw [← hxs]; rfl
  have hx4 : xs[4]? = some (S x.t) := by rw [← hxs]; rfl
  have hsz : ((Try.prog).info? 39).map (·.size) = some xs.toArray.size := by rw [List.size_toArray, hlen]; kernel_rfl
  rw [hxs] at hof ⊢
  generalize x.s = s at *
  generalize x.t = t at *
  have hofx : ∀ W, Calls Try.prog 8 #[.agg xs.toArray, .int .i64 6] W fun e w' => e = .returned (.int .i64 2) ∧ Below W.heap.size W w' := hof
  clear hof hxs hlen
  have bx := BoxAt.new w xs 39
  have hB := (Below.refl w.heap.size w).alloc (Nat.le_refl _) (.cells xs.toArray 39)
  have hflt := fun j hj => h.flt (j := j) hj
  have Hflt := Lib.hid hflt
  clear hflt
  go_enter Try.func21, Try.ntmps21
  go_upto_region 1 with fail
  generalize w.alloc (.cells xs.toArray 39) = w1 at *
  generalize hgx : w.heap.size = gx at *
  go_wp2_with (refine wpList_load_row (ty := 39) rfl _ rfl gx rfl 39 xs.toArray (0, 0) _ bx Try.underlying39 rfl hsz ?_)
  refine Calls.mono (hofx _) ?_
  rintro e w2 ⟨rfl, hb2⟩
  clear hofx hsz
  have bx2 := bx.keep hb2
  have hB2 : Below w.heap.size w w2 := by rw [hgx]; exact hB.trans (hb2.mono (by have := hB.size; omega))
  have h2 := h.keep hB2
  have hbd := hB2.size
  clear bx hb2 hB
  clear hr6
  have Hs := Lib.hid hs
  have Ht := Lib.hid ht
  clear hx hs ht
  obtain ⟨p, hb⟩ := h2.bk
  obtain ⟨cap, hr⟩ := h2.rf
  have hbD := hb.keep (Below.refl _ w2).drew
  have hrD := hr.keep (Below.refl _ w2).drew
  have h2D := h2.keep (Below.refl _ w2).drew
  have hp := w_BDelA s h2.R (by omega) hbD
  have hf := fun (W : World) (hW : RefB W c A cap L) => w_RDelA s h2.R (by omega) hW
  have hR' := delRb h2.R s
  have hll := delLs_len m L s
  generalize delE m s = ec at *
  generalize delMs m s = m' at *
  generalize delLs m L s = L' at *
  have Hap := Lib.hid h2.apart
  have bxD := bx2.drew
  have q3 := bxD.cell (j := 3) hx3
  have q4 := bxD.cell (j := 4) hx4
  have HR' := Lib.hid hR'
  have Hll := Lib.hid hll
  clear hR' hll hb hr h2
  go_upto_region 6 with fail
  go_region_held3 (fun W => W.cell? ⟨gx, 3, none⟩ = some (S s) ∧ W.cell? ⟨gx, 4, none⟩ = some (S t)) ((first | exact ⟨q3, q4⟩ | exact ⟨u3, u4⟩ | exact ⟨v3, v4⟩)) ((first
    | (go_at_call 38; (with_reducible refine Calls.mono hp ?_); rintro e w4 ⟨rfl, h4⟩; have bx4 := BkAfter.box h4 bxD (fun j hj => by have := Hflt.out j (.inl hj); omega); have hr4 := BkAfter.ref h4 hrD Hap.out; have u3 := bx4.cell (j := 3) hx3; have u4 := bx4.cell (j := 4) hx4)
    | (go_at_call 39; (with_reducible refine Calls.mono (hf w4 hr4) ?_); rintro e w5 ⟨rfl, h5⟩; have bx5 := RAfter.box h5 bx4 (fun j hj => by have := Hflt.out j (.inr hj); omega); have v3 := bx5.cell (j := 3) hx3; have v4 := bx5.cell (j := 4) hx4)))
  all_goals
    have hst := Both.step h2D h4 (fun cap' _ => h5) HR'.out Hll.out
    have hfin := StepP.from_ h (hB2.drew) hst
    clear hst h4 h5 bx4 bx5 bxD bx2 hr4 u3 u4 v3 v4 q3 q4
    try go_wp2_with fail
    go_ret
    exact ⟨by simp, hfin⟩
set_option maxHeartbeats 8000000 in
set_option maxRecDepth 100000 in
theorem w_bookStep3 (x : Stp) (hx : -9223372036854775808 ≤ x.kd ∧ x.kd ≤ 9223372036854775807) (hs : x.s.length ≤ 1048576) (ht : x.t.length ≤ 1048576) (hl : L.length ≤ 1048575) (hr6 : x.kd % 6 = 3) (h : Both w b gm c v A m L) :
    Calls Try.prog 21 #[.pointer (some ⟨b, 0, none⟩), .pointer (some ⟨c, 0, none⟩), .agg (encSt.enc x).toArray] w fun e w' => e = .returned (.bool true) ∧ StepP w b gm c v A L w' := by
  have hof := fun W => w_Of x 6 (by omega) (by omega) hx W
  have hr6' : x.kd % ((6 : Nat) : Int) = 3 := hr6
  rw [hr6'] at hof
  clear hr6'
  obtain ⟨xs, hxs⟩ : ∃ xs, encSt.enc x = xs := ⟨_, rfl⟩
  have hlen : xs.length = 22 := by rw [← hxs]; exact encSt.len x
  have hx3 : xs[3]? = some (S x.s) := by rw [← hxs]; rfl
  have hx4 : xs[4]? = some (S x.t) := by rw [← hxs]; rfl
  have hsz : ((Try.prog).info? 39).map (·.size) = some xs.toArray.size := by rw [List.size_toArray, hlen]; kernel_rfl
  rw [hxs] at hof ⊢
  generalize x.s = s at *
  generalize x.t = t at *
  have hofx : ∀ W, Calls Try.prog 8 #[.agg xs.toArray, .int .i64 6] W fun e w' => e = .returned (.int .i64 3) ∧ Below W.heap.size W w' := hof
  clear hof hxs hlen
  have bx := BoxAt.new w xs 39
  have hB := (Below.refl w.heap.size w).alloc (Nat.le_refl _) (.cells xs.toArray 39)
  have hflt := fun j hj => h.flt (j := j) hj
  have Hflt := Lib.hid hflt
  clear hflt
  go_enter Try.func21, Try.ntmps21
  go_upto_region 1 with fail
  generalize w.alloc (.cells xs.toArray 39) = w1 at *
  generalize hgx : w.heap.size = gx at *
  go_wp2_with (refine wpList_load_row (ty := 39) rfl _ rfl gx rfl 39 xs.toArray (0, 0) _ bx Try.underlying39 rfl hsz ?_)
  refine Calls.mono (hofx _) ?_
  rintro e w2 ⟨rfl, hb2⟩
  clear hofx hsz
  have bx2 := bx.keep hb2
  have hB2 : Below w.heap.size w w2 := by rw [hgx]; exact hB.trans (hb2.mono (by have := hB.size; omega))
  have h2 := h.keep hB2
  have hbd := hB2.size
  clear bx hb2 hB
  clear hr6
  have Hs := Lib.hid hs
  have Ht := Lib.hid ht
  clear hx hs ht
  obtain ⟨p, hb⟩ := h2.bk
  obtain ⟨cap, hr⟩ := h2.rf
  have hp := w_BCompact (fun k x hx => h2.R.keyLen hx) h2.R.few hb
  have hf := fun (W : World) (hW : RefB W c A cap L) => w_RCompact (by omega) h2.R hW
  have hcl : m.length = (compL m).length := (compL_len m).symm
  rw [hcl] at hp
  have hcle := compL_le h2.R
  have hRc := h2.R.comp
  have HRc := Lib.hid hRc
  have Hcl := Lib.hid hcl
  clear hcl hRc
  go_wp2_with fail
  refine Calls.mono hp ?_
  rintro e w4 ⟨rfl, h4⟩
  have hr4 := BkAfter.ref h4 hr h2.apart
  have hf4 := hf w4 hr4
  go_wp2_with fail
  refine Calls.mono hf4 ?_
  rintro e w5 ⟨rfl, h5⟩
  have hst := Both.step h2 h4 (fun cap' _ => h5) HRc.out (by omega)
  obtain ⟨v5, A5, m5, L5, h5b, hl5, hn5, hs5⟩ := hst
  have hl5' : L5.length ≤ 1048576 := by omega
  obtain ⟨k1, k2, k3⟩ := keys_eq h5b hl5'
  generalize sortL (keysM m5) = ks at *
  go_wp2_with fail
  refine Calls.mono k1 ?_
  intro e w6 hp6
  obtain ⟨⟨A6, c6, rfl, hr6⟩, hb6⟩ := hp6
  have k2' := k2 w6 hb6
  go_wp2_with fail
  refine Calls.mono k2' ?_
  intro e w7 hp7
  obtain ⟨⟨A7, c7, rfl, hr7⟩, hb7⟩ := hp7
  have k3' := k3 w6 w7 A6 A7 c6 c7 hr6.read hb7 hr7.read
  go_wp2_with fail
  refine Calls.mono k3' ?_
  rintro e w8 ⟨rfl, rfl⟩
  have hst7 : StepP w2 b gm c v A L w7 := ⟨v5, A5, m5, L5, (h5b.keep hb6).keep hb7, hl5, hn5, (hs5.keep hb6).keep hb7⟩
  have hfin := StepP.from_ h hB2 hst7
  go_wp2_with fail
  go_ret
  exact ⟨rfl, hfin⟩
set_option maxHeartbeats 8000000 in
set_option maxRecDepth 100000 in
theorem w_bookStep4 (x : Stp) (hx : -9223372036854775808 ≤ x.kd ∧ x.kd ≤ 9223372036854775807) (hs : x.s.length ≤ 1048576) (ht : x.t.length ≤ 1048576) (hl : L.length ≤ 1048575) (hr6 : x.kd % 6 = 4) (h : Both w b gm c v A m L) :
    Calls Try.prog 21 #[.pointer (some ⟨b, 0, none⟩), .pointer (some ⟨c, 0, none⟩), .agg (encSt.enc x).toArray] w fun e w' => e = .returned (.bool true) ∧ StepP w b gm c v A L w' := by
  have hof := fun W => w_Of x 6 (by omega) (by omega) hx W
  have hr6' : x.kd % ((6 : Nat) : Int) = 4 := hr6
  rw [hr6'] at hof
  clear hr6'
  obtain ⟨xs, hxs⟩ : ∃ xs, encSt.enc x = xs := ⟨_, rfl⟩
  have hlen : xs.length = 22 := by rw [← hxs]; exact encSt.len x
  have hx3 : xs[3]? = some (S x.s) := by rw [← hxs]; rfl
  have hx4 : xs[4]? = some (S x.t) := by rw [← hxs]; rfl
  have hsz : ((Try.prog).info? 39).map (·.size) = some xs.toArray.size := by rw [List.size_toArray, hlen]; kernel_rfl
  rw [hxs] at hof ⊢
  generalize x.s = s at *
  generalize x.t = t at *
  have hofx : ∀ W, Calls Try.prog 8 #[.agg xs.toArray, .int .i64 6] W fun e w' => e = .returned (.int .i64 4) ∧ Below W.heap.size W w' := hof
  clear hof hxs hlen
  have bx := BoxAt.new w xs 39
  have hB := (Below.refl w.heap.size w).alloc (Nat.le_refl _) (.cells xs.toArray 39)
  have hflt := fun j hj => h.flt (j := j) hj
  have Hflt := Lib.hid hflt
  clear hflt
  go_enter Try.func21, Try.ntmps21
  go_upto_region 1 with fail
  generalize w.alloc (.cells xs.toArray 39) = w1 at *
  generalize hgx : w.heap.size = gx at *
  go_wp2_with (refine wpList_load_row (ty := 39) rfl _ rfl gx rfl 39 xs.toArray (0, 0) _ bx Try.underlying39 rfl hsz ?_)
  refine Calls.mono (hofx _) ?_
  rintro e w2 ⟨rfl, hb2⟩
  clear hofx hsz
  have bx2 := bx.keep hb2
  have hB2 : Below w.heap.size w w2 := by rw [hgx]; exact hB.trans (hb2.mono (by have := hB.size; omega))
  have h2 := h.keep hB2
  have hbd := hB2.size
  clear bx hb2 hB
  clear hr6
  have Hs := Lib.hid hs
  have Ht := Lib.hid ht
  clear hx hs ht
  obtain ⟨p, hb⟩ := h2.bk
  obtain ⟨cap, hr⟩ := h2.rf
  have q3 := bx2.cell (j := 3) hx3
  have hp := w_BGet s hb
  have hf := w_RGet s (by omega) h2.R.ok hr
  rw [← h2.R.get] at hf
  generalize (getM m s).getD [] = gv at *
  generalize (getM m s).isSome = gi at *
  have hst : StepP w2 b gm c v A L w2 := StepP.stay h2 (SameBut.refl _) h2.bk
  go_wp2_with fail
  refine Calls.mono hp ?_
  rintro e w4 ⟨rfl, rfl⟩
  go_wp2_with fail
  refine Calls.mono hf ?_
  rintro e w5 ⟨rfl, hb5⟩
  have hst5 : StepP w2 b gm c v A L w5 := ⟨v, A, m, L, h2.keep hb5, by omega, fun j hj => .inl hj, (SameBut.refl _).keep hb5⟩
  have hfin := StepP.from_ h hB2 hst5
  clear hst hst5
  have hgE : (gv == gv) = true := by simp
  go_wp2_with fail
  go_ret
  exact ⟨by simp, hfin⟩
set_option maxHeartbeats 8000000 in
set_option maxRecDepth 100000 in
theorem w_bookStep5 (x : Stp) (hx : -9223372036854775808 ≤ x.kd ∧ x.kd ≤ 9223372036854775807) (hs : x.s.length ≤ 1048576) (ht : x.t.length ≤ 1048576) (hl : L.length ≤ 1048575) (hr6 : x.kd % 6 = 5) (h : Both w b gm c v A m L) :
    Calls Try.prog 21 #[.pointer (some ⟨b, 0, none⟩), .pointer (some ⟨c, 0, none⟩), .agg (encSt.enc x).toArray] w fun e w' => e = .returned (.bool true) ∧ StepP w b gm c v A L w' := by
  have hof := fun W => w_Of x 6 (by omega) (by omega) hx W
  have hr6' : x.kd % ((6 : Nat) : Int) = 5 := hr6
  rw [hr6'] at hof
  clear hr6'
  obtain ⟨xs, hxs⟩ : ∃ xs, encSt.enc x = xs := ⟨_, rfl⟩
  have hlen : xs.length = 22 := by rw [← hxs]; exact encSt.len x
  have hx3 : xs[3]? = some (S x.s) := by rw [← hxs]; rfl
  have hx4 : xs[4]? = some (S x.t) := by rw [← hxs]; rfl
  have hsz : ((Try.prog).info? 39).map (·.size) = some xs.toArray.size := by rw [List.size_toArray, hlen]; kernel_rfl
  rw [hxs] at hof ⊢
  generalize x.s = s at *
  generalize x.t = t at *
  have hofx : ∀ W, Calls Try.prog 8 #[.agg xs.toArray, .int .i64 6] W fun e w' => e = .returned (.int .i64 5) ∧ Below W.heap.size W w' := hof
  clear hof hxs hlen
  have bx := BoxAt.new w xs 39
  have hB := (Below.refl w.heap.size w).alloc (Nat.le_refl _) (.cells xs.toArray 39)
  have hflt := fun j hj => h.flt (j := j) hj
  have Hflt := Lib.hid hflt
  clear hflt
  go_enter Try.func21, Try.ntmps21
  go_upto_region 1 with fail
  generalize w.alloc (.cells xs.toArray 39) = w1 at *
  generalize hgx : w.heap.size = gx at *
  go_wp2_with (refine wpList_load_row (ty := 39) rfl _ rfl gx rfl 39 xs.toArray (0, 0) _ bx Try.underlying39 rfl hsz ?_)
  refine Calls.mono (hofx _) ?_
  rintro e w2 ⟨rfl, hb2⟩
  clear hofx hsz
  have bx2 := bx.keep hb2
  have hB2 : Below w.heap.size w w2 := by rw [hgx]; exact hB.trans (hb2.mono (by have := hB.size; omega))
  have h2 := h.keep hB2
  have hbd := hB2.size
  clear bx hb2 hB
  clear hr6
  have Hs := Lib.hid hs
  have Ht := Lib.hid ht
  clear hx hs ht
  have hl5' : L.length ≤ 1048576 := by omega
  obtain ⟨k1, k2, k3⟩ := keys_eq h2 hl5'
  generalize sortL (keysM m) = ks at *
  go_wp2_with fail
  refine Calls.mono k1 ?_
  intro e w6 hp6
  obtain ⟨⟨A6, c6, rfl, hr6⟩, hb6⟩ := hp6
  have k2' := k2 w6 hb6
  go_wp2_with fail
  refine Calls.mono k2' ?_
  intro e w7 hp7
  obtain ⟨⟨A7, c7, rfl, hr7⟩, hb7⟩ := hp7
  have k3' := k3 w6 w7 A6 A7 c6 c7 hr6.read hb7 hr7.read
  go_wp2_with fail
  refine Calls.mono k3' ?_
  rintro e w8 ⟨rfl, rfl⟩
  have hst7 : StepP w2 b gm c v A L w7 := ⟨v, A, m, L, (h2.keep hb6).keep hb7, by omega, fun j hj => .inl hj, ((SameBut.refl _).keep hb6).keep hb7⟩
  have hfin := StepP.from_ h hB2 hst7
  go_wp2_with fail
  go_ret
  exact ⟨rfl, hfin⟩
theorem w_bookStep (x : Stp) (hx : -9223372036854775808 ≤ x.kd ∧ x.kd ≤ 9223372036854775807) (hs : x.s.length ≤ 1048576) (ht : x.t.length ≤ 1048576) (hl : L.length ≤ 1048575) (h : Both w b gm c v A m L) :
    Calls Try.prog 21 #[.pointer (some ⟨b, 0, none⟩), .pointer (some ⟨c, 0, none⟩), .agg (encSt.enc x).toArray] w fun e w' => e = .returned (.bool true) ∧ StepP w b gm c v A L w' := by
  have hr6 : x.kd % 6 = 0 ∨ x.kd % 6 = 1 ∨ x.kd % 6 = 2 ∨ x.kd % 6 = 3 ∨ x.kd % 6 = 4 ∨ x.kd % 6 = 5 := by omega
  rcases hr6 with h0 | h0 | h0 | h0 | h0 | h0
  · exact w_bookStep0 x hx hs ht hl h0 h
  · exact w_bookStep1 x hx hs ht hl h0 h
  · exact w_bookStep2 x hx hs ht hl h0 h
  · exact w_bookStep3 x hx hs ht hl h0 h
  · exact w_bookStep4 x hx hs ht hl h0 h
  · exact w_bookStep5 x hx hs ht hl h0 h
end Go.Proofs.Ytbchkaoocobpfaa
