/- Walk: the program's Set. -/
import Derived.Test.YtlonddgokafgkaaWFldR
import Derived.Deep.RegionHeld3
import Derived.Deep.AppendLies
namespace Go.Proofs.Ytlonddgokafgkaa
open Go.RowKit Go.Larder
set_option linter.unusedVariables false
set_option linter.unusedSimpArgs false

theorem chain {w2 W w3 : World} (h1 : Below w2.heap.size w2 W) (h2 : Below W.heap.size W w3) : Below w2.heap.size w2 w3 := h1.trans (h2.mono h1.size)
theorem chainB {w2 W w3 : World} {B : Nat} (h1 : Below w2.heap.size w2 W) (h2 : Below B W w3) (hB : w2.heap.size ≤ B) : Below w2.heap.size w2 w3 := h1.trans (h2.mono hB)
theorem chainA {w2 W : World} (h1 : Below w2.heap.size w2 W) (o : Obj) : Below w2.heap.size w2 (W.alloc o) := h1.alloc h1.size o

theorem keepS {w2 W : World} {p0 p1 : Addr} {u v : Value} (h0 : p0.block < w2.heap.size) (h1 : p1.block < w2.heap.size) (k0 : w2.cell? p0 = some u) (k1 : w2.cell? p1 = some v) (h : Below w2.heap.size w2 W) : W.cell? p0 = some u ∧ W.cell? p1 = some v ∧ Below w2.heap.size w2 W :=
  ⟨(h.cell h0).trans k0, (h.cell h1).trans k1, h⟩

theorem w_fclone_n (l : List Fld) (n : Nat) (hn : l.length = n) (hl : n * 32 ≤ 140737488351232) (A : Option Addr) (c : Nat) (w : World) (hr : ReadL encF w w.heap.size A l) :
    Calls Try.prog 67 #[.slice A n c] w (fun e w' => (∃ A2 c2, e = .returned (.slice A2 n c2) ∧ OwnL encF w' w.heap.size 66 A2 c2 l) ∧ Below w.heap.size w w') := by
  subst hn
  exact w_fclone l hl A c w hr

theorem w_Drop_n (name : List UInt8) (hn : name.length ≤ 140737488351232) (l : List Fld) (n : Nat) (hln : l.length = n) (hx : ∀ f ∈ l, f.1.length ≤ 140737488351232 ∧ f.2.length ≤ 140737488351232) (hl : n * 32 ≤ 140737488351232) (A : Option Addr) (c : Nat) (w : World) (hr : ReadL encF w w.heap.size A l) :
    Calls Try.prog 46 #[.slice A n c, S name] w (fun e w' => (∃ A2 c2, e = .returned (.slice A2 (dropL (lowL name) l).length c2) ∧ OwnL encF w' w.heap.size 66 A2 c2 (dropL (lowL name) l)) ∧ Below w.heap.size w w') := by
  subst hln
  exact w_Drop name hn l hx hl A c w hr

set_option maxHeartbeats 4000000 in
set_option maxRecDepth 100000 in
theorem w_Set (name value : List UInt8) (hn : name.length ≤ 140737488351232) (l : List Fld) (hx : ∀ f ∈ l, f.1.length ≤ 140737488351232 ∧ f.2.length ≤ 140737488351232) (hl : l.length * 32 ≤ 140737488351232) (A : Option Addr) (c : Nat) (hlc : l.length ≤ c) (w : World) (hr : ReadL encF w w.heap.size A l) :
    Calls Try.prog 44 #[.slice A l.length c, S name, S value] w (fun e w' => (∃ A2 c2, e = .returned (.slice A2 (setR name value l).length c2) ∧ OwnL encF w' w.heap.size 66 A2 c2 (setR name value l)) ∧ Below w.heap.size w w') := by
  have hl2 : l.length ≤ 140737488351232 := by omega
  have hw1 : (w.alloc (.cells #[S name, S value] 66)).heap.size = w.heap.size + 1 := by simp
  go_enter Try.func44, Try.ntmps44
  go_wp2_with fail
  refine (w_named name hn _).mono ?_
  rintro e w1 ⟨⟨b, rfl, hb0, hbl, hcell⟩, hb1⟩
  have hbx1 := box_kept hb1
  have hB1 : Below w.heap.size w w1 := ((Below.refl _ _).alloc (Nat.le_refl _) _).trans (hb1.mono (by simp))
  have hs1 := hb1.size
  rw [hw1] at hs1
  have hr1 := (hr.below hB1 (Nat.le_refl _)).more hB1.size
  go_wp2_with fail
  refine (w_fidx (lowL name) l hx hl2 A c _ _ hr1 ⟨b, rfl, hbl, hcell⟩).mono ?_
  rintro e w2 ⟨rfl, hb2⟩
  have hbx2 : w2.heap[w.heap.size]? = some (.cells #[S name, S value] 66 (0, 0)) := (hb2.block _ (by omega)).trans hbx1
  have hB2 : Below w.heap.size w w2 := hB1.trans (hb2.mono hB1.size)
  have hs2 := hb2.size
  have hr2 := (hr.below hB2 (Nat.le_refl _)).more hB2.size
  have k0 : w2.cell? ⟨w.heap.size, 0, none⟩ = some (S name) := by rw [Lib.cell_of_heap hbx2]; rfl
  have k1 : w2.cell? ⟨w.heap.size, 1, none⟩ = some (S value) := by rw [Lib.cell_of_heap hbx2]; rfl
  have hlit2 : ReadL encF (w2.alloc (.cells #[S name, S value] 66)).drew (w2.heap.size + 1) (some ⟨w2.heap.size, 0, none⟩) [(name, value)] := ReadL.lit w2 _ _ _ rfl
  rcases ixFrom_ge (lowL name) l 0 with h1 | ⟨m, h1, _, hm, _, _, _, _⟩
  · rw [h1]
    obtain ⟨i0, z0, hi0, hz0, hz1, hz2, hz3⟩ := sl_field.info
    go_wp2_with fail
    go_region_held3 (fun w' => w'.cell? ⟨w.heap.size, 0, none⟩ = some (S name) ∧ w'.cell? ⟨w.heap.size, 1, none⟩ = some (S value)) (go_keep)
      (first
        | (go_at_call 67; refine (w_fclone l hl A c _ (by first | exact hr2 | exact ((hr2.alloc (Nat.le_refl _) _).more (by simp)))).mono ?_; rintro e w3 ⟨⟨A3, c3, rfl, ho3⟩, hb3⟩; have q0 : w3.cell? ⟨w.heap.size, 0, none⟩ = some (S name) := (hb3.cell (p := ⟨w.heap.size, 0, none⟩) (by simp; omega)).trans (by first | exact k0 | exact (World.cell?_alloc_lt _ _ _ (by simp; omega)).trans k0); have q1 : w3.cell? ⟨w.heap.size, 1, none⟩ = some (S value) := (hb3.cell (p := ⟨w.heap.size, 1, none⟩) (by simp; omega)).trans (by first | exact k1 | exact (World.cell?_alloc_lt _ _ _ (by simp; omega)).trans k1))
        | (refine step_app_sl encF sl_field [(name, value)] (by rfl) _ _ (by rfl) (by rfl) (by first | exact ho3 | exact ho3.alloc _) (by rfl) (by first | exact ReadL.lit _ _ _ _ rfl | exact hlit2.below hb3 (by show w2.heap.size + 1 ≤ (w2.heap.push _).size; simp)) (by simp; omega) (by simp [maxLen]; omega) (by have := hb3.size; simp at this ⊢; omega) ?_; intro A4 c4 w4 ho4 hb4; have r0 : w4.cell? ⟨w.heap.size, 0, none⟩ = some (S name) := (hb4.cell (p := ⟨w.heap.size, 0, none⟩) (by simp; omega)).trans (by first | exact q0 | exact (World.cell?_alloc_lt _ _ _ (by have := hb3.size; simp at this; simp; omega)).trans q0); have r1 : w4.cell? ⟨w.heap.size, 1, none⟩ = some (S value) := (hb4.cell (p := ⟨w.heap.size, 1, none⟩) (by simp; omega)).trans (by first | exact q1 | exact (World.cell?_alloc_lt _ _ _ (by have := hb3.size; simp at this; simp; omega)).trans q1)))
    have hB2s := hB2.size
    all_goals
      go_wp2
      go_ret
      have hsz := hb3.size
      simp at hsz
      refine ⟨⟨A4, c4, by rw [setR_none h1]; simp, by rw [setR_none h1]; exact ho4.base_le (by simp; omega)⟩, ?_⟩
      first
        | exact ((hB2.drew.trans (hb3.mono (by simp; omega))).alloc (by omega) _).trans (hb4.mono (by simp; omega))
        | exact ((hB2.alloc (by omega) _).drew.trans (hb3.mono (by simp; omega))).trans (hb4.mono (by simp; omega))
  · rw [h1]
    have hml : m < l.length := by omega
    obtain ⟨g, off, rfl, hgb, _⟩ := hr2 (by omega)
    have hB2s := hB2.size
    have htl : (l.take m).length = m := by rw [List.length_take]; omega
    have hdl : (l.drop (m + 1)).length = l.length - (m + 1) := List.length_drop
    have hrT : ∀ W, Below w2.heap.size w2 W → ReadL encF W W.heap.size (some ⟨g, off, none⟩) (l.take m) := fun W h => ((hr2.below h (Nat.le_refl _)).more h.size).take m
    have hrD : ∀ W, Below w2.heap.size w2 W → ReadL encF W W.heap.size (some ⟨g, off + (m + 1) * 2, none⟩) (l.drop (m + 1)) := fun W h => ((hr2.below h (Nat.le_refl _)).more h.size).drop (m + 1)
    have hxD : ∀ f ∈ l.drop (m + 1), f.1.length ≤ 140737488351232 ∧ f.2.length ≤ 140737488351232 := fun f hf => hx f (List.mem_of_mem_drop hf)
    have hBw : Below w2.heap.size w2 w2.drew := (Below.refl _ _).drew
    have hm0 : (0 : Int) ≤ (m : Int) := by omega
    have hmc : (m : Int) ≤ (c : Int) := by omega
    have hmc1 : m ≤ c := by omega
    have hsz0 : w2.drew.heap.size = w2.heap.size := rfl
    have hsz3 : ∀ (W : World) (o : Obj), (W.alloc o).heap.size = W.heap.size + 1 := fun W o => by simp
    have hsz2 : (w2.alloc (.cells #[S name, S value] 66)).drew.heap.size = w2.heap.size + 1 := by show (w2.heap.push _).size = _; simp
    have hdl2 : (dropL (lowL name) (l.drop (m + 1))).length ≤ l.length - (m + 1) := by rw [← hdl]; exact List.length_filter_le _ _
    have v1 : IntKind.i64.wrap ((m : Int) + 1) = (m : Int) + 1 := IntWalk.i64_in _ ⟨by omega, by omega⟩
    have v2 : (0 : Int) ≤ (m : Int) + 1 := by omega
    have v3 : (m : Int) + 1 ≤ (l.length : Int) := by omega
    have v4 : ((m : Int) + 1).toNat = m + 1 := by omega
    have v5 : m + 1 ≤ l.length := by omega
    have v6 : (m : Int) + 1 ≤ (c : Int) := by omega
    by_cases hcm : c = m + 1
    · have hlm : l.length = m + 1 := by omega
      have hd0 : l.drop (m + 1) = [] := List.drop_eq_nil_of_le (by omega)
      have hrN : ∀ (W : World) (ad : Option Addr), ReadL encF W W.heap.size ad (l.drop (m + 1)) := fun W ad => by rw [hd0]; exact ReadL.nil
      have hcm' : m + 1 = c := hcm.symm
      have hdl3 : (dropL (lowL name) (l.drop c)).length ≤ l.length - c := by rw [hcm'] at hdl2; exact hdl2
      clear hlm hd0 hcm
      go_wp2_with fail
      go_region_held3 (fun w' => w'.cell? ⟨w.heap.size, 0, none⟩ = some (S name) ∧ w'.cell? ⟨w.heap.size, 1, none⟩ = some (S value) ∧ Below w2.heap.size w2 w') ((refine keepS (by show w.heap.size < w2.heap.size; omega) (by show w.heap.size < w2.heap.size; omega) k0 k1 ?_; first | assumption | (refine chainA ?_ _; first | assumption | simp_all; done) | (refine Below.drew (chainA ?_ _); first | assumption | exact Below.refl _ _)))
        (first
          | (go_at_call 67; refine (w_fclone_n (l.take m) m htl (by omega) _ c _ (hrT _ (by first | assumption | simp_all))).mono ?_; rintro e w3 ⟨⟨A3, c3, rfl, ho3⟩, hb3⟩; have hK3 := chain (w2 := w2) (by first | assumption | simp_all) hb3)
          | (go_at_call 46; refine (w_Drop_n name hn (l.drop (m + 1)) _ (by first | exact hdl | (rw [hdl]; omega)) hxD (by omega) _ _ _ (hrN _ _)).mono ?_; rintro e w5 ⟨⟨A5, c5, rfl, ho5⟩, hb5⟩; have hK5 := chain (w2 := w2) (by first | assumption | simp_all) hb5)
          | (refine step_app_sl (l := List.take m l) encF sl_field [(name, value)] (by rfl) _ _ (by rfl) (by rw [htl]; rfl) (by first | exact ho3 | exact ho3.alloc _ | exact ho3.below hb5 (Nat.le_refl _) | exact (ho3.alloc _).below hb5 (Nat.le_refl _) | exact (ho3.below hb5 (Nat.le_refl _)).alloc _) (by rfl) (by first | exact ReadL.lit _ _ _ _ rfl | exact hlit2.below hb3 (by first | exact Nat.le_refl _ | omega | (have h3 := hb3.size; first | omega | (simp at h3 ⊢; omega)) | (have h5 := hb5.size; first | omega | (simp at h5 ⊢; omega)) | (have h3 := hb3.size; have h5 := hb5.size; first | omega | (simp at h3 h5 ⊢; omega))) | exact (hlit2.below hb3 (by first | exact Nat.le_refl _ | omega | (have h3 := hb3.size; first | omega | (simp at h3 ⊢; omega)) | (have h5 := hb5.size; first | omega | (simp at h5 ⊢; omega)) | (have h3 := hb3.size; have h5 := hb5.size; first | omega | (simp at h3 h5 ⊢; omega)))).below hb5 (by first | exact Nat.le_refl _ | omega | (have h3 := hb3.size; first | omega | (simp at h3 ⊢; omega)) | (have h5 := hb5.size; first | omega | (simp at h5 ⊢; omega)) | (have h3 := hb3.size; have h5 := hb5.size; first | omega | (simp at h3 h5 ⊢; omega))) | exact (hlit2.below hb5 (by first | exact Nat.le_refl _ | omega | (have h3 := hb3.size; first | omega | (simp at h3 ⊢; omega)) | (have h5 := hb5.size; first | omega | (simp at h5 ⊢; omega)) | (have h3 := hb3.size; have h5 := hb5.size; first | omega | (simp at h3 h5 ⊢; omega)))).below hb3 (by first | exact Nat.le_refl _ | omega | (have h3 := hb3.size; first | omega | (simp at h3 ⊢; omega)) | (have h5 := hb5.size; first | omega | (simp at h5 ⊢; omega)) | (have h3 := hb3.size; have h5 := hb5.size; first | omega | (simp at h3 h5 ⊢; omega))) | exact (ReadL.lit _ _ _ _ rfl).below hb5 (by simp) | exact (ReadL.lit _ _ _ _ rfl).below hb3 (by simp)) (by rw [htl]; simp; omega) (by rw [htl]; simp [maxLen]; omega) (by first | exact Nat.le_refl _ | omega | (have h3 := hb3.size; first | omega | (simp at h3 ⊢; omega)) | (have h5 := hb5.size; first | omega | (simp at h5 ⊢; omega)) | (have h3 := hb3.size; have h5 := hb5.size; first | omega | (simp at h3 h5 ⊢; omega))) ?_; intro A4 c4 w4 ho4 hb4; have hK4 := chainB (w2 := w2) (by first | assumption | exact chainA (by assumption) _ | simp_all) hb4 (by first | exact Nat.le_refl _ | omega | (have h3 := hb3.size; first | omega | (simp at h3 ⊢; omega)) | (have h5 := hb5.size; first | omega | (simp at h5 ⊢; omega)) | (have h3 := hb3.size; have h5 := hb5.size; first | omega | (simp at h3 h5 ⊢; omega))))
          | (refine step_app_any (l := List.take m l ++ [(name, value)]) encF sl_field (dropL (lowL name) (l.drop c)) (by rfl) _ _ (by rfl) (by first | rfl | (rw [List.length_append, htl]; rfl) | (rw [List.length_append, htl, show m + [(name, value)].length = c from hcm']; rfl)) (by first | exact ho4 | exact ho4.below hb5 (Nat.le_refl _)) (by rfl) (by have hq := ho5.read; rw [hcm'] at hq; first | exact hq | exact hq.below hb4 (by simp)) (by rw [List.length_append, htl]; simp; omega) (by rw [List.length_append, htl]; simp [maxLen]; omega) (by first | exact Nat.le_refl _ | omega | (have h3 := hb3.size; have h4 := hb4.size; have h5 := hb5.size; first | omega | (rw [hsz3] at h5; omega) | (rw [hsz3] at h4; omega) | (rw [hsz3] at h3; omega) | (simp at h3 h4 h5 ⊢; omega)) | (have h4 := hb4.size; first | omega | (simp at h4 ⊢; omega)) | (have h5 := hb5.size; first | omega | (simp at h5 ⊢; omega))) ?_; intro A6 c6 w6 ho6 hb6; have hK6 := chainB (w2 := w2) (by first | assumption | simp_all) hb6 (by first | exact Nat.le_refl _ | omega | (have h3 := hb3.size; have h4 := hb4.size; have h5 := hb5.size; first | omega | (rw [hsz3] at h5; omega) | (rw [hsz3] at h4; omega) | (rw [hsz3] at h3; omega) | (simp at h3 h4 h5 ⊢; omega)) | (have h4 := hb4.size; first | omega | (simp at h4 ⊢; omega)) | (have h5 := hb5.size; first | omega | (simp at h5 ⊢; omega)))))
      all_goals
        go_wp2
        go_ret
        refine ⟨⟨A6, c6, by rw [setR_some h1, hcm']; simp [htl, Nat.min_eq_left (Nat.le_of_lt hml)]; omega, by rw [setR_some h1, hcm']; exact ho6.base_le (by first | (rw [hsz0]; omega) | (rw [hsz2]; omega) | (simp; omega))⟩, hB2.trans (hK6.mono hB2.size)⟩
    · have hcm1 : m + 1 < c := by omega
      go_wp2_with fail
      go_region_held3 (fun w' => w'.cell? ⟨w.heap.size, 0, none⟩ = some (S name) ∧ w'.cell? ⟨w.heap.size, 1, none⟩ = some (S value) ∧ Below w2.heap.size w2 w') ((refine keepS (by show w.heap.size < w2.heap.size; omega) (by show w.heap.size < w2.heap.size; omega) k0 k1 ?_; first | assumption | (refine chainA ?_ _; first | assumption | simp_all; done) | (refine Below.drew (chainA ?_ _); first | assumption | exact Below.refl _ _)))
        (first
          | (go_at_call 67; refine (w_fclone_n (l.take m) m htl (by omega) _ c _ (hrT _ (by first | assumption | simp_all))).mono ?_; rintro e w3 ⟨⟨A3, c3, rfl, ho3⟩, hb3⟩; have hK3 := chain (w2 := w2) (by first | assumption | simp_all) hb3)
          | (go_at_call 46; refine (w_Drop_n name hn (l.drop (m + 1)) (l.length - (m + 1)) hdl hxD (by omega) _ _ _ (hrD _ (by first | assumption | simp_all))).mono ?_; rintro e w5 ⟨⟨A5, c5, rfl, ho5⟩, hb5⟩; have hK5 := chain (w2 := w2) (by first | assumption | simp_all) hb5)
          | (refine step_app_sl (l := List.take m l) encF sl_field [(name, value)] (by rfl) _ _ (by rfl) (by rw [htl]; rfl) (by first | exact ho3 | exact ho3.alloc _ | exact ho3.below hb5 (Nat.le_refl _) | exact (ho3.alloc _).below hb5 (Nat.le_refl _) | exact (ho3.below hb5 (Nat.le_refl _)).alloc _) (by rfl) (by first | exact ReadL.lit _ _ _ _ rfl | exact hlit2.below hb3 (by first | exact Nat.le_refl _ | omega | (have h3 := hb3.size; first | omega | (simp at h3 ⊢; omega)) | (have h5 := hb5.size; first | omega | (simp at h5 ⊢; omega)) | (have h3 := hb3.size; have h5 := hb5.size; first | omega | (simp at h3 h5 ⊢; omega))) | exact (hlit2.below hb3 (by first | exact Nat.le_refl _ | omega | (have h3 := hb3.size; first | omega | (simp at h3 ⊢; omega)) | (have h5 := hb5.size; first | omega | (simp at h5 ⊢; omega)) | (have h3 := hb3.size; have h5 := hb5.size; first | omega | (simp at h3 h5 ⊢; omega)))).below hb5 (by first | exact Nat.le_refl _ | omega | (have h3 := hb3.size; first | omega | (simp at h3 ⊢; omega)) | (have h5 := hb5.size; first | omega | (simp at h5 ⊢; omega)) | (have h3 := hb3.size; have h5 := hb5.size; first | omega | (simp at h3 h5 ⊢; omega))) | exact (hlit2.below hb5 (by first | exact Nat.le_refl _ | omega | (have h3 := hb3.size; first | omega | (simp at h3 ⊢; omega)) | (have h5 := hb5.size; first | omega | (simp at h5 ⊢; omega)) | (have h3 := hb3.size; have h5 := hb5.size; first | omega | (simp at h3 h5 ⊢; omega)))).below hb3 (by first | exact Nat.le_refl _ | omega | (have h3 := hb3.size; first | omega | (simp at h3 ⊢; omega)) | (have h5 := hb5.size; first | omega | (simp at h5 ⊢; omega)) | (have h3 := hb3.size; have h5 := hb5.size; first | omega | (simp at h3 h5 ⊢; omega))) | exact (ReadL.lit _ _ _ _ rfl).below hb5 (by simp) | exact (ReadL.lit _ _ _ _ rfl).below hb3 (by simp)) (by rw [htl]; simp; omega) (by rw [htl]; simp [maxLen]; omega) (by first | exact Nat.le_refl _ | omega | (have h3 := hb3.size; first | omega | (simp at h3 ⊢; omega)) | (have h5 := hb5.size; first | omega | (simp at h5 ⊢; omega)) | (have h3 := hb3.size; have h5 := hb5.size; first | omega | (simp at h3 h5 ⊢; omega))) ?_; intro A4 c4 w4 ho4 hb4; have hK4 := chainB (w2 := w2) (by first | assumption | exact chainA (by assumption) _ | simp_all) hb4 (by first | exact Nat.le_refl _ | omega | (have h3 := hb3.size; first | omega | (simp at h3 ⊢; omega)) | (have h5 := hb5.size; first | omega | (simp at h5 ⊢; omega)) | (have h3 := hb3.size; have h5 := hb5.size; first | omega | (simp at h3 h5 ⊢; omega))))
          | (refine step_app_any (l := List.take m l ++ [(name, value)]) encF sl_field (dropL (lowL name) (l.drop (m + 1))) (by rfl) _ _ (by rfl) (by first | rfl | (rw [List.length_append, htl]; rfl)) (by first | exact ho4 | exact ho4.below hb5 (Nat.le_refl _)) (by rfl) (by first | exact ho5.read | exact ho5.read.below hb4 (by simp)) (by rw [List.length_append, htl]; simp; omega) (by rw [List.length_append, htl]; simp [maxLen]; omega) (by first | exact Nat.le_refl _ | omega | (have h3 := hb3.size; have h4 := hb4.size; have h5 := hb5.size; first | omega | (rw [hsz3] at h5; omega) | (rw [hsz3] at h4; omega) | (rw [hsz3] at h3; omega) | (simp at h3 h4 h5 ⊢; omega)) | (have h4 := hb4.size; first | omega | (simp at h4 ⊢; omega)) | (have h5 := hb5.size; first | omega | (simp at h5 ⊢; omega))) ?_; intro A6 c6 w6 ho6 hb6; have hK6 := chainB (w2 := w2) (by first | assumption | simp_all) hb6 (by first | exact Nat.le_refl _ | omega | (have h3 := hb3.size; have h4 := hb4.size; have h5 := hb5.size; first | omega | (rw [hsz3] at h5; omega) | (rw [hsz3] at h4; omega) | (rw [hsz3] at h3; omega) | (simp at h3 h4 h5 ⊢; omega)) | (have h4 := hb4.size; first | omega | (simp at h4 ⊢; omega)) | (have h5 := hb5.size; first | omega | (simp at h5 ⊢; omega)))))
      all_goals
        go_wp2
        go_ret
        refine ⟨⟨A6, c6, by rw [setR_some h1]; simp [htl, Nat.min_eq_left (Nat.le_of_lt hml)]; omega, by rw [setR_some h1]; exact ho6.base_le (by first | (rw [hsz0]; omega) | (rw [hsz2]; omega) | (simp; omega))⟩, hB2.trans (hK6.mono hB2.size)⟩
end Go.Proofs.Ytlonddgokafgkaa
