/- WDgS, WDgZ -/
import Derived.Test.YtemjoiaapfhenaaGreatDoorWDgH
import Derived.Test.YtemjoiaapfhenaaGreatDoorGd01
import Derived.Test.YtemjoiaapfhenaaGreatDoorGd02

/- WDgS -/
section
namespace Go.Proofs.YtemjoiaapfhenaaGreatDoor
open Go.RowKit Go.Larder
set_option linter.unusedVariables false
set_option linter.unusedSimpArgs false
abbrev zer64 : List Value := [.int .u8 0, .int .u8 0, .int .u8 0, .int .u8 0, .int .u8 0, .int .u8 0, .int .u8 0, .int .u8 0, .int .u8 0, .int .u8 0, .int .u8 0, .int .u8 0, .int .u8 0, .int .u8 0, .int .u8 0, .int .u8 0, .int .u8 0, .int .u8 0, .int .u8 0, .int .u8 0, .int .u8 0, .int .u8 0, .int .u8 0, .int .u8 0, .int .u8 0, .int .u8 0, .int .u8 0, .int .u8 0, .int .u8 0, .int .u8 0, .int .u8 0, .int .u8 0, .int .u8 0, .int .u8 0, .int .u8 0, .int .u8 0, .int .u8 0, .int .u8 0, .int .u8 0, .int .u8 0, .int .u8 0, .int .u8 0, .int .u8 0, .int .u8 0, .int .u8 0, .int .u8 0, .int .u8 0, .int .u8 0, .int .u8 0, .int .u8 0, .int .u8 0, .int .u8 0, .int .u8 0, .int .u8 0, .int .u8 0, .int .u8 0, .int .u8 0, .int .u8 0, .int .u8 0, .int .u8 0, .int .u8 0, .int .u8 0, .int .u8 0, .int .u8 0]
theorem zer64_eq : zer64 = Lib.byteCells (List.replicate 64 0) := rfl
theorem splice_pad (rest : List UInt8) (h : rest.length ≤ 64) : splice zer64 0 (Lib.byteCells rest) = Lib.byteCells (padB rest) := by
  unfold splice padB
  rw [zer64_eq]
  simp only [List.take_zero, List.nil_append, Nat.zero_add, Lib.byteCells_length]
  unfold Lib.byteCells
  rw [← List.map_drop, List.drop_replicate, ← List.map_append]
theorem padB_len (rest : List UInt8) (h : rest.length ≤ 64) : (padB rest).length = 64 := by simp [padB]; omega
theorem read_box {w : World} {g : Nat} {t : TypeId} {l : List UInt8} (h : BoxAt w g t (Lib.byteCells l)) : ReadL encB w w.heap.size (some ⟨g, 0, none⟩) l := by
  intro _
  refine ⟨g, 0, rfl, h.lt, fun k y hy r u hu => ?_⟩
  have hr : r = 0 := by
    have := (List.getElem?_eq_some_iff.1 hu).1
    simp [encB] at this; exact this
  subst hr
  have hu' : Value.int .u8 (y.toNat : Int) = u := by simpa [encB] using hu
  rw [← hu', show 0 + k * encB.size + 0 = k from by show 0 + k * 1 + 0 = k; omega]
  exact h.cell (by unfold Lib.byteCells; rw [List.getElem?_map, hy]; rfl)
theorem index_state (v : List Nat) (i x : Nat) (hi : i < 8) (hx : v[i]? = some x) (W : World) : (Instr.index 181 (.agg (v.map U).toArray) (.int .i64 (i : Int))).run Tryz.prog W = .ok (U x) W := by
  have hp : ∀ W, (Go.part 61 (v.map U).toArray i).run Tryz.prog W = .ok (U x) W := fun W => by
    have hagg : (isAgg 61).run Tryz.prog W = .ok false W := by
      unfold isAgg
      rw [Sem.run_bind, run_underlying Tryz.underlying61 W]
      rfl
    simp [Go.part, Sem.run_bind, hagg, hx]
  have hsz : (sizeOf 61).run Tryz.prog W = .ok 1 W := by kernel_rfl
  have ht : (Tryz.prog).underlying 181 = some (.array 8 61) := by kernel_rfl
  simp [Instr.index, run_underlying ht, asIntOf, hi, hsz]
  exact hp W
theorem le4_vals (x : Nat) (hx : x < 4294967296) : (#[.int .u8 ((x : Int) % 256), .int .u8 ((x : Int) / 256 % 256), .int .u8 ((x : Int) / 65536 % 256), .int .u8 ((x : Int) / 16777216)] : Array Value).toList = (le4 x).flatMap encB.enc := by
  have Hx : ∀ k : Nat, k < 256 → ((UInt8.ofNat k).toNat : Int) = k := fun k h => ofNat_toNat h
  rw [flat_B]
  simp only [le4, List.map_cons, List.map_nil]
  rw [Hx _ (by omega), Hx _ (by omega), Hx _ (by omega), Hx _ (by omega)]
  simp
set_option maxHeartbeats 4000000 in
set_option maxRecDepth 100000 in
theorem w_DSumH (gx base : Nat) (all : List UInt8) (w : World) (hx : HashFull w gx base all) (hl : all.length ≤ 8000000) :
    Calls Tryz.prog 130 #[.pointer (some ⟨gx, 0, none⟩)] w fun e w' => e = .returned (S (digL all)) ∧ Below w.heap.size w w' := by
  obtain ⟨h, many, rest, A, c, hx, hr64⟩ := hx
  have hsm := hx.dg.sum
  have q8 := (hx.box.alloc (.cells #[.int .u8 0, .int .u8 0, .int .u8 0, .int .u8 0, .int .u8 0, .int .u8 0, .int .u8 0, .int .u8 0, .int .u8 0, .int .u8 0, .int .u8 0, .int .u8 0, .int .u8 0, .int .u8 0, .int .u8 0, .int .u8 0, .int .u8 0, .int .u8 0, .int .u8 0, .int .u8 0, .int .u8 0, .int .u8 0, .int .u8 0, .int .u8 0, .int .u8 0, .int .u8 0, .int .u8 0, .int .u8 0, .int .u8 0, .int .u8 0, .int .u8 0, .int .u8 0, .int .u8 0, .int .u8 0, .int .u8 0, .int .u8 0, .int .u8 0, .int .u8 0, .int .u8 0, .int .u8 0, .int .u8 0, .int .u8 0, .int .u8 0, .int .u8 0, .int .u8 0, .int .u8 0, .int .u8 0, .int .u8 0, .int .u8 0, .int .u8 0, .int .u8 0, .int .u8 0, .int .u8 0, .int .u8 0, .int .u8 0, .int .u8 0, .int .u8 0, .int .u8 0, .int .u8 0, .int .u8 0, .int .u8 0, .int .u8 0, .int .u8 0, .int .u8 0] 186)).cell (get8 hx.dg.ok.len _ _)
  have bl : BoxAt (w.alloc (.cells #[.int .u8 0, .int .u8 0, .int .u8 0, .int .u8 0, .int .u8 0, .int .u8 0, .int .u8 0, .int .u8 0, .int .u8 0, .int .u8 0, .int .u8 0, .int .u8 0, .int .u8 0, .int .u8 0, .int .u8 0, .int .u8 0, .int .u8 0, .int .u8 0, .int .u8 0, .int .u8 0, .int .u8 0, .int .u8 0, .int .u8 0, .int .u8 0, .int .u8 0, .int .u8 0, .int .u8 0, .int .u8 0, .int .u8 0, .int .u8 0, .int .u8 0, .int .u8 0, .int .u8 0, .int .u8 0, .int .u8 0, .int .u8 0, .int .u8 0, .int .u8 0, .int .u8 0, .int .u8 0, .int .u8 0, .int .u8 0, .int .u8 0, .int .u8 0, .int .u8 0, .int .u8 0, .int .u8 0, .int .u8 0, .int .u8 0, .int .u8 0, .int .u8 0, .int .u8 0, .int .u8 0, .int .u8 0, .int .u8 0, .int .u8 0, .int .u8 0, .int .u8 0, .int .u8 0, .int .u8 0, .int .u8 0, .int .u8 0, .int .u8 0, .int .u8 0] 186)) w.heap.size 186 zer64 := BoxAt.new w [.int .u8 0, .int .u8 0, .int .u8 0, .int .u8 0, .int .u8 0, .int .u8 0, .int .u8 0, .int .u8 0, .int .u8 0, .int .u8 0, .int .u8 0, .int .u8 0, .int .u8 0, .int .u8 0, .int .u8 0, .int .u8 0, .int .u8 0, .int .u8 0, .int .u8 0, .int .u8 0, .int .u8 0, .int .u8 0, .int .u8 0, .int .u8 0, .int .u8 0, .int .u8 0, .int .u8 0, .int .u8 0, .int .u8 0, .int .u8 0, .int .u8 0, .int .u8 0, .int .u8 0, .int .u8 0, .int .u8 0, .int .u8 0, .int .u8 0, .int .u8 0, .int .u8 0, .int .u8 0, .int .u8 0, .int .u8 0, .int .u8 0, .int .u8 0, .int .u8 0, .int .u8 0, .int .u8 0, .int .u8 0, .int .u8 0, .int .u8 0, .int .u8 0, .int .u8 0, .int .u8 0, .int .u8 0, .int .u8 0, .int .u8 0, .int .u8 0, .int .u8 0, .int .u8 0, .int .u8 0, .int .u8 0, .int .u8 0, .int .u8 0, .int .u8 0] 186
  have hbx := hx.box.alloc (.cells #[.int .u8 0, .int .u8 0, .int .u8 0, .int .u8 0, .int .u8 0, .int .u8 0, .int .u8 0, .int .u8 0, .int .u8 0, .int .u8 0, .int .u8 0, .int .u8 0, .int .u8 0, .int .u8 0, .int .u8 0, .int .u8 0, .int .u8 0, .int .u8 0, .int .u8 0, .int .u8 0, .int .u8 0, .int .u8 0, .int .u8 0, .int .u8 0, .int .u8 0, .int .u8 0, .int .u8 0, .int .u8 0, .int .u8 0, .int .u8 0, .int .u8 0, .int .u8 0, .int .u8 0, .int .u8 0, .int .u8 0, .int .u8 0, .int .u8 0, .int .u8 0, .int .u8 0, .int .u8 0, .int .u8 0, .int .u8 0, .int .u8 0, .int .u8 0, .int .u8 0, .int .u8 0, .int .u8 0, .int .u8 0, .int .u8 0, .int .u8 0, .int .u8 0, .int .u8 0, .int .u8 0, .int .u8 0, .int .u8 0, .int .u8 0, .int .u8 0, .int .u8 0, .int .u8 0, .int .u8 0, .int .u8 0, .int .u8 0, .int .u8 0, .int .u8 0] 186)
  have how := hx.own.below ((Below.refl _ w).alloc (Nat.le_refl _) (.cells #[.int .u8 0, .int .u8 0, .int .u8 0, .int .u8 0, .int .u8 0, .int .u8 0, .int .u8 0, .int .u8 0, .int .u8 0, .int .u8 0, .int .u8 0, .int .u8 0, .int .u8 0, .int .u8 0, .int .u8 0, .int .u8 0, .int .u8 0, .int .u8 0, .int .u8 0, .int .u8 0, .int .u8 0, .int .u8 0, .int .u8 0, .int .u8 0, .int .u8 0, .int .u8 0, .int .u8 0, .int .u8 0, .int .u8 0, .int .u8 0, .int .u8 0, .int .u8 0, .int .u8 0, .int .u8 0, .int .u8 0, .int .u8 0, .int .u8 0, .int .u8 0, .int .u8 0, .int .u8 0, .int .u8 0, .int .u8 0, .int .u8 0, .int .u8 0, .int .u8 0, .int .u8 0, .int .u8 0, .int .u8 0, .int .u8 0, .int .u8 0, .int .u8 0, .int .u8 0, .int .u8 0, .int .u8 0, .int .u8 0, .int .u8 0, .int .u8 0, .int .u8 0, .int .u8 0, .int .u8 0, .int .u8 0, .int .u8 0, .int .u8 0, .int .u8 0] 186))
  have hb0 := (Below.refl w.heap.size w).alloc (Nat.le_refl _) (.cells #[.int .u8 0, .int .u8 0, .int .u8 0, .int .u8 0, .int .u8 0, .int .u8 0, .int .u8 0, .int .u8 0, .int .u8 0, .int .u8 0, .int .u8 0, .int .u8 0, .int .u8 0, .int .u8 0, .int .u8 0, .int .u8 0, .int .u8 0, .int .u8 0, .int .u8 0, .int .u8 0, .int .u8 0, .int .u8 0, .int .u8 0, .int .u8 0, .int .u8 0, .int .u8 0, .int .u8 0, .int .u8 0, .int .u8 0, .int .u8 0, .int .u8 0, .int .u8 0, .int .u8 0, .int .u8 0, .int .u8 0, .int .u8 0, .int .u8 0, .int .u8 0, .int .u8 0, .int .u8 0, .int .u8 0, .int .u8 0, .int .u8 0, .int .u8 0, .int .u8 0, .int .u8 0, .int .u8 0, .int .u8 0, .int .u8 0, .int .u8 0, .int .u8 0, .int .u8 0, .int .u8 0, .int .u8 0, .int .u8 0, .int .u8 0, .int .u8 0, .int .u8 0, .int .u8 0, .int .u8 0, .int .u8 0, .int .u8 0, .int .u8 0, .int .u8 0] 186)
  have hgl := hx.box.lt
  go_enter Tryz.func130, Tryz.ntmps130
  go_wp2_with fail
  generalize w.alloc (.cells #[.int .u8 0, .int .u8 0, .int .u8 0, .int .u8 0, .int .u8 0, .int .u8 0, .int .u8 0, .int .u8 0, .int .u8 0, .int .u8 0, .int .u8 0, .int .u8 0, .int .u8 0, .int .u8 0, .int .u8 0, .int .u8 0, .int .u8 0, .int .u8 0, .int .u8 0, .int .u8 0, .int .u8 0, .int .u8 0, .int .u8 0, .int .u8 0, .int .u8 0, .int .u8 0, .int .u8 0, .int .u8 0, .int .u8 0, .int .u8 0, .int .u8 0, .int .u8 0, .int .u8 0, .int .u8 0, .int .u8 0, .int .u8 0, .int .u8 0, .int .u8 0, .int .u8 0, .int .u8 0, .int .u8 0, .int .u8 0, .int .u8 0, .int .u8 0, .int .u8 0, .int .u8 0, .int .u8 0, .int .u8 0, .int .u8 0, .int .u8 0, .int .u8 0, .int .u8 0, .int .u8 0, .int .u8 0, .int .u8 0, .int .u8 0, .int .u8 0, .int .u8 0, .int .u8 0, .int .u8 0, .int .u8 0, .int .u8 0, .int .u8 0, .int .u8 0] 186) = W1 at *
  refine wp_region_still_tail 5 (by kernel_rfl) (by kernel_rfl) ?_
  simp only [List.take_succ_cons, List.take_zero, List.drop_succ_cons, List.drop_zero]
  repeat still_step
  try refine wpStill_nil ?_
  change wpList _ _ _ _ _ W1.drew
  refine wpList_copy_splice rfl _ _ _ _ (by rfl) 5 Tryz.underlying112 (by kernel_rfl) (some ⟨w.heap.size, 0, none⟩) A 64 64 rest.length c (by rfl) (by rfl) w.heap.size 0 zer64 186 bl (Lib.byteCells rest) ?_ ?_ ?_ ?_ w.heap.size w hb0.drew (Nat.le_refl _) ?_
  · rw [Lib.byteCells_length]; exact (Nat.min_eq_left hr64).symm
  · intro hpos
    refine ⟨rfl, ?_⟩
    rcases how.body with ⟨h0, h0'⟩ | ⟨g', off', cur, h1, h2, h3, h4, h5⟩
    · rw [Lib.byteCells_length] at hpos
      have := how.le
      omega
    · exact ⟨⟨g', off', none⟩, h1, fun j v hv => how.cells g' off' h1 j v hv⟩
  · rw [Lib.byteCells_length]; simpa using hr64
  · intro v hv
    unfold Lib.byteCells at hv
    obtain ⟨b, _, rfl⟩ := List.mem_map.1 hv
    rfl
  rintro W2 HB2 hb2
  have hbx2 := hbx
  have b2 : BoxAt W2 w.heap.size 186 (Lib.byteCells (padB rest)) := by
    have := HB2.out
    rw [splice_pad rest hr64] at this
    exact this
  have hx2 := hx.box.kept hb2 hgl
  clear HB2 hbx hbx2 how q8 bl
  have hlen : (Lib.byteCells rest).length = rest.length := Lib.byteCells_length rest
  rw [hlen]
  clear hlen
  have hdg := Lib.hid (hx.dg.fin hr64)
  have hok := hx.dg.ok
  have hB2 := b2.lt
  have hread := (read_box b2).below (Below.refl _ W2).drew (Nat.le_refl _)
  have hbk := w_block h hok (padB rest) (padB_len rest hr64) (some ⟨w.heap.size, 0, none⟩) 64 (many + rest.length) (by omega) true
  have hokb := hok.blockN (padB rest) (many + rest.length) true
  obtain ⟨k0, k1, k2, k3, k4, k5, k6, k7, hk⟩ := eight hokb.len
  rw [hk] at hbk hokb
  have hdn := Lib.hid (show digN all = [k0, k1, k2, k3, k4, k5, k6, k7] from hdg.out.trans hk)
  clear hdg hk
  obtain ⟨h0, h1, h2, h3, h4, h5, h6, h7, rfl⟩ := eight hok.len
  have q0 := hx2.cell (j := 0) rfl
  have q1 := hx2.cell (j := 1) rfl
  have q2 := hx2.cell (j := 2) rfl
  have q3 := hx2.cell (j := 3) rfl
  have q4 := hx2.cell (j := 4) rfl
  have q5 := hx2.cell (j := 5) rfl
  have q6 := hx2.cell (j := 6) rfl
  have q7 := hx2.cell (j := 7) rfl
  have q9 := hx2.cell (j := 9) rfl
  simp only [U] at q0 q1 q2 q3 q4 q5 q6 q7
  have hbk2 : ∀ W, ReadL encB W W.heap.size (some ⟨w.heap.size, 0, none⟩) (padB rest) → Calls Tryz.prog 176 #[.agg #[.int .u32 (h0 : Nat), .int .u32 (h1 : Nat), .int .u32 (h2 : Nat), .int .u32 (h3 : Nat), .int .u32 (h4 : Nat), .int .u32 (h5 : Nat), .int .u32 (h6 : Nat), .int .u32 (h7 : Nat)], .slice (some ⟨w.heap.size, 0, none⟩) 64 64, .int .u64 ((many : Int) + (rest.length : Int)), .bool true] W fun e w' => e = .returned (.agg #[.int .u32 (k0 : Nat), .int .u32 (k1 : Nat), .int .u32 (k2 : Nat), .int .u32 (k3 : Nat), .int .u32 (k4 : Nat), .int .u32 (k5 : Nat), .int .u32 (k6 : Nat), .int .u32 (k7 : Nat)]) ∧ Below W.heap.size W w' := fun W hr => hbk W hr
  clear hbk hx
  have hw1 : IntKind.u64.wrap (rest.length : Int) = (rest.length : Int) := by simp [IntKind.wrap, IntKind.bits, IntKind.signed]; omega
  have hw2 : IntKind.u64.wrap ((many : Int) + (rest.length : Int)) = (many : Int) + (rest.length : Int) := by simp [IntKind.wrap, IntKind.bits, IntKind.signed]; omega
  go_wp2_with fail
  have hbk3 := hbk2 W2.drew hread
  have hbk4 := hbk2 (W2.alloc (.cells #[.int .u32 0, .int .u32 0, .int .u32 0, .int .u32 0, .int .u32 0, .int .u32 0, .int .u32 0, .int .u32 0] 181)).drew ((((read_box b2).alloc (Nat.le_refl _) (.cells #[.int .u32 0, .int .u32 0, .int .u32 0, .int .u32 0, .int .u32 0, .int .u32 0, .int .u32 0, .int .u32 0] 181)).below (Below.refl _ _).drew (Nat.le_refl _)).more (by show W2.heap.size ≤ (W2.alloc (.cells #[.int .u32 0, .int .u32 0, .int .u32 0, .int .u32 0, .int .u32 0, .int .u32 0, .int .u32 0, .int .u32 0] 181)).heap.size; rw [World.size_alloc]; exact Nat.le_succ _))
  clear hbk2
  have Hbn := Lib.hid (show BoxAt (W2.alloc (.cells #[.int .u32 0, .int .u32 0, .int .u32 0, .int .u32 0, .int .u32 0, .int .u32 0, .int .u32 0, .int .u32 0] 181)).drew W2.heap.size 181 [.int .u32 0, .int .u32 0, .int .u32 0, .int .u32 0, .int .u32 0, .int .u32 0, .int .u32 0, .int .u32 0] from (BoxAt.new W2 [.int .u32 0, .int .u32 0, .int .u32 0, .int .u32 0, .int .u32 0, .int .u32 0, .int .u32 0, .int .u32 0] 181).drew)
  clear hb0
  have hgx2 : gx < W2.heap.size := hx2.lt
  have hgx3 : W2.heap.size ≠ gx := Nat.ne_of_gt hgx2
  go_region_with (go_at_call 176; first | ((with_reducible refine Calls.mono hbk3 ?_); rintro e w5 ⟨rfl, hb5⟩; have hB5 : Below w.heap.size w w5 := (hb2.drew).trans (hb5.mono hb2.size); have hB6 := hB5.alloc hB5.size (.cells #[.int .u32 (k0 : Nat), .int .u32 (k1 : Nat), .int .u32 (k2 : Nat), .int .u32 (k3 : Nat), .int .u32 (k4 : Nat), .int .u32 (k5 : Nat), .int .u32 (k6 : Nat), .int .u32 (k7 : Nat)] 181)) | ((with_reducible refine Calls.mono hbk4 ?_); rintro e w5 ⟨rfl, hb5⟩; have hB5 : Below w.heap.size w w5 := ((hb2.alloc hb2.size _).drew).trans (hb5.mono (by have := hb2.size; show w.heap.size ≤ (W2.alloc (.cells #[.int .u32 0, .int .u32 0, .int .u32 0, .int .u32 0, .int .u32 0, .int .u32 0, .int .u32 0, .int .u32 0] 181)).heap.size; rw [World.size_alloc]; omega)); have hB6 := ((((((((hB5.setCell (p := ⟨W2.heap.size, 0, none⟩) hb2.size (.int .u32 (k0 : Nat))).setCell (p := ⟨W2.heap.size, 1, none⟩) hb2.size (.int .u32 (k1 : Nat))).setCell (p := ⟨W2.heap.size, 2, none⟩) hb2.size (.int .u32 (k2 : Nat))).setCell (p := ⟨W2.heap.size, 3, none⟩) hb2.size (.int .u32 (k3 : Nat))).setCell (p := ⟨W2.heap.size, 4, none⟩) hb2.size (.int .u32 (k4 : Nat))).setCell (p := ⟨W2.heap.size, 5, none⟩) hb2.size (.int .u32 (k5 : Nat))).setCell (p := ⟨W2.heap.size, 6, none⟩) hb2.size (.int .u32 (k6 : Nat))).setCell (p := ⟨W2.heap.size, 7, none⟩) hb2.size (.int .u32 (k7 : Nat))); have bx5 := Hbn.out.keep hb5; have p0 := bx5.cell (j := 0) rfl; have f0 := bx5.free 0; have p1 := bx5.cell (j := 1) rfl; have f1 := bx5.free 1; have p2 := bx5.cell (j := 2) rfl; have f2 := bx5.free 2; have p3 := bx5.cell (j := 3) rfl; have f3 := bx5.free 3; have p4 := bx5.cell (j := 4) rfl; have f4 := bx5.free 4; have p5 := bx5.cell (j := 5) rfl; have f5 := bx5.free 5; have p6 := bx5.cell (j := 6) rfl; have f6 := bx5.free 6; have p7 := bx5.cell (j := 7) rfl; have f7 := bx5.free 7))
  all_goals
    have HB6 := Lib.hid hB6
    clear hB6 hB5 hb5 hread hbk3 hbk4
    go_wp2_with fail
    go_loopw [6, 8, 29] (fun o' _ i' wr => ∃ (k : Nat) (out : List UInt8) (A : Option Addr) (c : Nat), i' = .int .i64 k ∧ o' = .slice A out.length c ∧ k ≤ 8 ∧ out.length ≤ 4 * k ∧ Hid (out = ([k0, k1, k2, k3, k4, k5, k6, k7].take k).flatMap le4) ∧ OwnL encB wr w.heap.size 5 A c out ∧ Below w.heap.size w wr) (fun _ _ i' _ => 8 - (intOf i').toNat)
    case atStart => exact ⟨0, [], none, 0, rfl, rfl, by omega, by simp, Lib.hid rfl, OwnL.nil _ _ _, HB6.out⟩
    case round =>
      obtain ⟨k, out, A', c', rfl, rfl, hk, hol, heq, hown, hbel⟩ := hrel
      obtain ⟨wo, hwo⟩ : ∃ wo, wo = wr := ⟨_, rfl⟩
      subst hwo
      by_cases hlt : k < 8
      · obtain ⟨x, hx⟩ : ∃ x, [k0, k1, k2, k3, k4, k5, k6, k7][k]? = some x := ⟨_, List.getElem?_eq_getElem hlt⟩
        have hix : ∀ W, (Instr.index 181 (.agg #[.int .u32 (k0 : Nat), .int .u32 (k1 : Nat), .int .u32 (k2 : Nat), .int .u32 (k3 : Nat), .int .u32 (k4 : Nat), .int .u32 (k5 : Nat), .int .u32 (k6 : Nat), .int .u32 (k7 : Nat)]) (.int .i64 (k : Int))).run Tryz.prog W = .ok (.int .u32 (x : Int)) W := fun W => index_state [k0, k1, k2, k3, k4, k5, k6, k7] k x hlt hx W
        have hxl : x < 4294967296 := hokb.lt x (List.mem_of_getElem? hx)
        have Hn := Lib.hid (show out ++ le4 x = ([k0, k1, k2, k3, k4, k5, k6, k7].take (k + 1)).flatMap le4 from by
          rw [List.take_add_one, hx, heq.out, List.flatMap_append]; simp)
        have hlv := Lib.hid (le4_vals x hxl)
        clear hx
        go_wp2_with (at_builtin
                     refine wpList_app encB sl_u8H (le4 x) rfl _ _ rfl (by rfl) hown #[.int .u8 ((x : Int) % 256), .int .u8 ((x : Int) / 256 % 256), .int .u8 ((x : Int) / 65536 % 256), .int .u8 ((x : Int) / 16777216)] hlv.out 3 rfl rfl (by omega) (by simp only [maxLen]; omega) hbel.size ?_
                     intro g3 c3 w3 hown3 hg3 hb3 hbg3)
        go_roundw
        case rel => exact ⟨k + 1, out ++ le4 x, some ⟨g3, 0, none⟩, c3, by go_num, by simp [le4], by omega, by simp [le4]; omega, Hn, hown3, hbel.trans hb3⟩
        case measure => simp [intOf]; omega
      · obtain rfl : k = 8 := by omega
        have hcs := run_bytes_str (P := Tryz.prog) 112 9 Tryz.underlying112 Tryz.underlying5 Tryz.underlying9 hown.read c'
        have Hall := Lib.hid (show out = digL all from by unfold digL; rw [heq.out, hdn.out]; rfl)
        go_wp2_with fail
        go_ret
        exact ⟨ret_S Hall.out, hbel⟩
end Go.Proofs.YtemjoiaapfhenaaGreatDoor
end

/- WDgZ -/
section
namespace Go.Proofs.YtemjoiaapfhenaaGreatDoor
open Go.RowKit Go.Larder
set_option linter.unusedVariables false
set_option linter.unusedSimpArgs false
def NewH (w : World) (e : Ending) (w' : World) : Prop := ∃ g, e = .returned (.pointer (some ⟨g, 0, none⟩)) ∧ w.heap.size ≤ g ∧ HashAt w' g w.heap.size [] startH 0 [] none 0 ∧ Below w.heap.size w w'
set_option maxHeartbeats 400000 in
theorem w_DSum (s : List UInt8) (hs : s.length ≤ 8000000) (w : World) :
    Calls Tryz.prog 65 #[S s] w fun e w' => e = .returned (S (digL s)) ∧ Below w.heap.size w w' := by
  go_enter Tryz.func65, Tryz.ntmps65
  go_wp2_with fail
  refine Calls.mono (w_DNew _) ?_
  rintro e w1 ⟨g, rfl, hg, hh, hb1⟩
  go_wp2_with fail
  refine Calls.mono (w_DWrite g w.heap.size [] s startH 0 [] none 0 (by simpa using hs) w1 hh hg hb1.size) ?_
  rintro e w2 ⟨rfl, hf, hb2⟩
  go_wp2_with fail
  refine Calls.mono (w_DSumH g w.heap.size s w2 hf hs) ?_
  rintro e w3 ⟨rfl, hb3⟩
  go_wp2_with fail
  go_ret
  exact ⟨rfl, (hb1.trans hb2).trans (hb3.mono (hb1.trans hb2).size)⟩
end Go.Proofs.YtemjoiaapfhenaaGreatDoor
end
