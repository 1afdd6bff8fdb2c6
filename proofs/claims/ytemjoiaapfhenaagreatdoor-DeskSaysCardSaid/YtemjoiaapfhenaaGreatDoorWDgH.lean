/- Walks: digests: a hash takes more in. -/
import Derived.Test.YtemjoiaapfhenaaGreatDoorGd16
import Derived.Deep.DeepCutAuto
import Derived.StillTailTactics
import Derived.Laws.Slices
import Derived.Deep.RegionLaw
namespace Go.Proofs.YtemjoiaapfhenaaGreatDoor
open Go.RowKit Go.Larder
set_option linter.unusedVariables false
set_option linter.unusedSimpArgs false
theorem info_u8W : ((Tryz.prog).info? 5).map (fun i => (i.zero, i.size, i.bytes)) = some (some (.int .u8 0), 1, 1) := by kernel_rfl
theorem ownW_apart {w : World} {base c g : Nat} {e t : TypeId} {A : Option Addr} {l : List UInt8} {cs : List Value} (h : OwnW w base e A c l) (hb : BoxAt w g t cs) (hne : e ≠ t) : ∀ a, A = some a → a.block ≠ g := by
  rintro a ha rfl
  rcases h.body with ⟨h0, _⟩ | ⟨g', off, cur, h1, _, h3, _⟩
  · rw [h0] at ha; cases ha
  · rw [ha] at h1
    injection h1 with h1
    subst h1
    have h2 : w.heap[g']? = some (.cells cs.toArray t) := hb
    rw [h2] at h3
    injection h3 with h3
    injection h3 with _ h3 _
    exact hne h3.symm
theorem set8 {h : List Nat} (hl : h.length = 8) (a b x : Value) : (h.map U ++ [a, b]).set 8 x = h.map U ++ [x, b] := by
  rw [List.set_append_right _ _ (by rw [List.length_map, hl]; omega), List.length_map, hl]; rfl
theorem set9 {h : List Nat} (hl : h.length = 8) (a b x : Value) : (h.map U ++ [a, b]).set 9 x = h.map U ++ [a, x] := by
  rw [List.set_append_right _ _ (by rw [List.length_map, hl]; omega), List.length_map, hl]; rfl
theorem get8 {h : List Nat} (hl : h.length = 8) (a b : Value) : (h.map U ++ [a, b])[8]? = some a := by
  rw [List.getElem?_append_right (by rw [List.length_map, hl]; omega), List.length_map, hl]; rfl
theorem get9 {h : List Nat} (hl : h.length = 8) (a b : Value) : (h.map U ++ [a, b])[9]? = some b := by
  rw [List.getElem?_append_right (by rw [List.length_map, hl]; omega), List.length_map, hl]; rfl
theorem sl_u8H : SlT Tryz.prog 112 5 1 1 := SlT.mk' (z := .int .u8 0) Tryz.underlying112 info_u8W rfl
theorem elem_u8H : Tryz.prog.elem 112 = 5 := by kernel_rfl
theorem und_u8H : Tryz.prog.underlying 112 = some (.slice (Tryz.prog.elem 112)) := by rw [elem_u8H]; exact Tryz.underlying112
theorem sizeOf_u8H (w : World) : (sizeOf 5).run Tryz.prog w = .ok 1 w := by
  obtain ⟨i, z, hi, _, hs, _⟩ := sl_u8H.info
  simp [sizeOf, typeInfo, hi]
  exact hs
theorem run_upto64 (g off n c : Nat) (h2 : 64 ≤ c) (w : World) : (Instr.slice 112 (.slice (some ⟨g, off, none⟩) n c) none (some (.int .i64 64)) none).run Tryz.prog w = .ok (.slice (some ⟨g, off, none⟩) 64 c) w := by
  refine (run_slice_h (P := Tryz.prog) (w := w) (t := 112) (a := some ⟨g, off, none⟩) (len := n) (cap := c) und_u8H .i64 (64 : Int) (by omega) (by omega)).trans ?_
  rw [elem_u8H, sizeOf_u8H]
  simp [Result.andThen, sliced, Addr.add]
  try omega
theorem run_from64 (g off n c : Nat) (h1 : 64 < n) (h2 : n ≤ c) (w : World) : (Instr.slice 112 (.slice (some ⟨g, off, none⟩) n c) (some (.int .i64 64)) none none).run Tryz.prog w = .ok (.slice (some ⟨g, off + 64, none⟩) (n - 64) (c - 64)) w := by
  refine (run_slice_l (P := Tryz.prog) (w := w) (t := 112) (a := some ⟨g, off, none⟩) (len := n) (cap := c) und_u8H .i64 (64 : Int) (by omega) (by omega)).trans ?_
  rw [elem_u8H, sizeOf_u8H]
  have hn : ¬ n ≤ 64 := by omega
  simp [Result.andThen, sliced, Addr.add, hn]
  try omega
/-- a hash that is whole: no block waits -/
def HashFull (w : World) (gx base : Nat) (all : List UInt8) : Prop := ∃ h many rest A c, HashAt w gx base all h many rest A c ∧ rest.length ≤ 64
def lenSl : Value → Nat
  | .slice _ n _ => n
  | _ => 0
set_option maxHeartbeats 4000000 in
set_option maxRecDepth 100000 in
theorem w_DWrite (gx base : Nat) (all s : List UInt8) (h : List Nat) (many : Nat) (rest : List UInt8) (A : Option Addr) (c : Nat) (hsum : all.length + s.length ≤ 8000000) (w : World) (hx : HashAt w gx base all h many rest A c) (hbg : base ≤ gx) (hbw : base ≤ w.heap.size) :
    Calls Tryz.prog 129 #[.pointer (some ⟨gx, 0, none⟩), S s] w fun e w' => e = .returned (.tuple #[]) ∧ HashFull w' gx base (all ++ s) ∧ Below base w w' := by
  have hsm := hx.dg.sum
  have hap := ownW_apart hx.own hx.box (by decide)
  have q8 := hx.box.cell (get8 hx.dg.ok.len _ _)
  have f8 := hx.box.free 8
  go_enter Tryz.func129, Tryz.ntmps129
  go_wp2_with (at_builtin
               refine wpList_appW Tryz.underlying112 Tryz.underlying9 info_u8W rfl _ _ rfl (by rfl) hx.own rfl s (by rfl) (by omega) hbw ?_
               intro A1 c1 w1 ho1 hg1
               have bx1 := hx.box.grn hg1 hap
               have q81 := bx1.cell (get8 hx.dg.ok.len _ _)
               have f81 := bx1.free 8)
  have hap1 := ownW_apart ho1 bx1 (by decide)
  have bx2 := bx1.set 8 (.slice A1 (rest.length + s.length) c1)
  rw [set8 hx.dg.ok.len] at bx2
  have ho2 : OwnW (w1.setCell ⟨gx, 8, none⟩ (.slice A1 (rest.length + s.length) c1)) base 5 A1 c1 (rest ++ s) := ho1.keep fun a ha => heap_setCell_other _ _ _ _ (hap1 a ha)
  have hb1 : Below base w w1 := ⟨hg1.os, hg1.tape, hg1.output, hg1.size, fun j hj => hg1.block j (by omega) fun hh => by
    cases A with
    | none => simp [blkOf] at hh
    | some a =>
      have := (hx.own.lt rfl).1
      simp [blkOf] at hh
      omega⟩
  have hb2 : Below base w (w1.setCell ⟨gx, 8, none⟩ (.slice A1 (rest.length + s.length) c1)) := hb1.setCell (p := ⟨gx, 8, none⟩) hbg _
  have hx2 : HashAt (w1.setCell ⟨gx, 8, none⟩ (.slice A1 (rest.length + s.length) c1)) gx base (all ++ s) h many (rest ++ s) A1 c1 := ⟨by rw [List.length_append]; exact bx2, ho2, hx.dg.more⟩
  clear q8 f8 q81 f81 bx1 bx2 ho1 ho2 hb1 hg1 hx hap hap1
  generalize (w1.setCell ⟨gx, 8, none⟩ (.slice A1 (rest.length + s.length) c1)) = W2 at *
  go_loopw [13] (fun _ wr => (∃ h' many' rest' A' c', HashAt wr gx base (all ++ s) h' many' rest' A' c') ∧ Below base w wr) (fun _ wr => lenSl ((wr.cell? ⟨gx, 8, none⟩).getD undef))
  case atStart => exact ⟨⟨h, many, rest ++ s, A1, c1, hx2⟩, hb2⟩
  case round =>
    obtain ⟨⟨h', m', r', A', c', hx⟩, hbel⟩ := hrel
    obtain ⟨wo, hwo⟩ : ∃ wo, wo = wr := ⟨_, rfl⟩
    subst hwo
    have hsm2 := hx.dg.sum
    have q8 := hx.box.cell (get8 hx.dg.ok.len _ _)
    have q9 := hx.box.cell (get9 hx.dg.ok.len _ _)
    have f8 := hx.box.free 8
    have f9 := hx.box.free 9
    rw [List.length_append] at hsm2
    by_cases hlt : 64 < r'.length
    · have hltI : (64 : Int) < (r'.length : Int) := by omega
      have hc64 : 64 ≤ c' := by have := hx.own.le; omega
      obtain ⟨g, off, rfl⟩ : ∃ g off, A' = some ⟨g, off, none⟩ := by
        rcases hx.own.body with ⟨h0, h0'⟩ | ⟨g, off, _, h1, _⟩
        · omega
        · exact ⟨g, off, h1⟩
      have hle := hx.own.le
      have hs1 := fun w => run_upto64 g off r'.length c' hc64 w
      have hs2 := fun w => run_from64 g off r'.length c' hlt hle w
      have hd2 := hx.dg.step hlt
      have hown := hx.own
      have hsl := hx.box
      have hok := hx.dg.ok
      go_upto_region 3 with fail
      have bx3 := hsl.set 9 (.int .u64 ((m' + 64 : Nat) : Int))
      rw [set9 hok.len] at bx3
      have hm64 : (m' : Int) + 64 = ((m' + 64 : Nat) : Int) := by omega
      rw [hm64]
      have hgx := ownW_apart hown hsl (by decide)
      have ow3 : OwnW (wo.setCell ⟨gx, 9, none⟩ (.int .u64 ((m' + 64 : Nat) : Int))) base 5 (some ⟨g, off, none⟩) c' r' := hown.keep fun a ha => heap_setCell_other _ _ _ _ (hgx a ha)
      have hB3 := hbel.setCell (p := ⟨gx, 9, none⟩) hbg (.int .u64 ((m' + 64 : Nat) : Int))
      have Q8 := Lib.hid q8
      clear q8 q9 f8 f9 hx hown hsl hm64 hbel
      generalize (wo.setCell ⟨gx, 9, none⟩ (.int .u64 ((m' + 64 : Nat) : Int))) = W3 at *
      have hbk := w_block h' hok (r'.take 64) (by rw [List.length_take]; omega) (some ⟨g, off, none⟩) c' (m' + 64) (by omega) false W3.drew (ow3.read.take 64)
      obtain ⟨k0, k1, k2, k3, k4, k5, k6, k7, hk⟩ := eight (hok.blockN (r'.take 64) (m' + 64) false).len
      rw [hk] at hbk hd2
      have Hd2 := Lib.hid hd2
      obtain ⟨h0, h1, h2, h3, h4, h5, h6, h7, rfl⟩ := eight hok.len
      have q0 := bx3.cell (j := 0) rfl
      have q1 := bx3.cell (j := 1) rfl
      have q2 := bx3.cell (j := 2) rfl
      have q3 := bx3.cell (j := 3) rfl
      have q4 := bx3.cell (j := 4) rfl
      have q5 := bx3.cell (j := 5) rfl
      have q6 := bx3.cell (j := 6) rfl
      have q7 := bx3.cell (j := 7) rfl
      have q8 := bx3.cell (j := 8) rfl
      have q9 := bx3.cell (j := 9) rfl
      simp only [U] at q0 q1 q2 q3 q4 q5 q6 q7
      have hbk2 : Calls Tryz.prog 176 #[.agg #[.int .u32 (h0 : Nat), .int .u32 (h1 : Nat), .int .u32 (h2 : Nat), .int .u32 (h3 : Nat), .int .u32 (h4 : Nat), .int .u32 (h5 : Nat), .int .u32 (h6 : Nat), .int .u32 (h7 : Nat)], .slice (some ⟨g, off, none⟩) 64 c', .int .u64 ((m' : Int) + 64), .bool false] W3.drew fun e w' => e = .returned (.agg #[.int .u32 (k0 : Nat), .int .u32 (k1 : Nat), .int .u32 (k2 : Nat), .int .u32 (k3 : Nat), .int .u32 (k4 : Nat), .int .u32 (k5 : Nat), .int .u32 (k6 : Nat), .int .u32 (k7 : Nat)]) ∧ Below W3.drew.heap.size W3.drew w' := hbk
      clear hbk hd2 hk
      go_region_with (go_at_call 176; refine hbk2.mono ?_; rintro e w5 ⟨rfl, hb5⟩; have bx5 := bx3.drew.keep hb5; have p0 := bx5.cell (j := 0) rfl; have p1 := bx5.cell (j := 1) rfl; have p2 := bx5.cell (j := 2) rfl; have p3 := bx5.cell (j := 3) rfl; have p4 := bx5.cell (j := 4) rfl; have p5 := bx5.cell (j := 5) rfl; have p6 := bx5.cell (j := 6) rfl; have p7 := bx5.cell (j := 7) rfl; have p8 := bx5.cell (j := 8) rfl; have f0 := bx5.free 0; have f1 := bx5.free 1; have f2 := bx5.free 2; have f3 := bx5.free 3; have f4 := bx5.free 4; have f5 := bx5.free 5; have f6 := bx5.free 6; have f7 := bx5.free 7; have f8 := bx5.free 8)
      all_goals
        have hB5 : Below base w w5 := (hB3.drew).trans (hb5.mono (by have := hB3.size; show base ≤ W3.heap.size; omega))
        have ow5 := (OwnW.keep (w' := W3.drew) ow3 fun a ha => rfl).below hb5
        have bx6 := (((((((((bx5.set 0 (.int .u32 (k0 : Nat))).set 1 (.int .u32 (k1 : Nat))).set 2 (.int .u32 (k2 : Nat))).set 3 (.int .u32 (k3 : Nat))).set 4 (.int .u32 (k4 : Nat))).set 5 (.int .u32 (k5 : Nat))).set 6 (.int .u32 (k6 : Nat))).set 7 (.int .u32 (k7 : Nat))).set 8 (.slice (some ⟨g, off + 64, none⟩) (r'.length - 64) (c' - 64)))
        have hs6 := ((((((((((SameBut.refl (B := fun j => j = gx) w5).setCell ⟨gx, 0, none⟩ (.int .u32 (k0 : Nat)) (fun _ => rfl)).setCell ⟨gx, 1, none⟩ (.int .u32 (k1 : Nat)) (fun _ => rfl)).setCell ⟨gx, 2, none⟩ (.int .u32 (k2 : Nat)) (fun _ => rfl)).setCell ⟨gx, 3, none⟩ (.int .u32 (k3 : Nat)) (fun _ => rfl)).setCell ⟨gx, 4, none⟩ (.int .u32 (k4 : Nat)) (fun _ => rfl)).setCell ⟨gx, 5, none⟩ (.int .u32 (k5 : Nat)) (fun _ => rfl)).setCell ⟨gx, 6, none⟩ (.int .u32 (k6 : Nat)) (fun _ => rfl)).setCell ⟨gx, 7, none⟩ (.int .u32 (k7 : Nat)) (fun _ => rfl)).setCell ⟨gx, 8, none⟩ (.slice (some ⟨g, off + 64, none⟩) (r'.length - 64) (c' - 64)) (fun _ => rfl))
        have hB6 := (((((((((hB5.setCell (p := ⟨gx, 0, none⟩) hbg (.int .u32 (k0 : Nat))).setCell (p := ⟨gx, 1, none⟩) hbg (.int .u32 (k1 : Nat))).setCell (p := ⟨gx, 2, none⟩) hbg (.int .u32 (k2 : Nat))).setCell (p := ⟨gx, 3, none⟩) hbg (.int .u32 (k3 : Nat))).setCell (p := ⟨gx, 4, none⟩) hbg (.int .u32 (k4 : Nat))).setCell (p := ⟨gx, 5, none⟩) hbg (.int .u32 (k5 : Nat))).setCell (p := ⟨gx, 6, none⟩) hbg (.int .u32 (k6 : Nat))).setCell (p := ⟨gx, 7, none⟩) hbg (.int .u32 (k7 : Nat))).setCell (p := ⟨gx, 8, none⟩) hbg (.slice (some ⟨g, off + 64, none⟩) (r'.length - 64) (c' - 64)))
        have bx6 : BoxAt (((((((((w5.setCell ⟨gx, 0, none⟩ (.int .u32 (k0 : Nat))).setCell ⟨gx, 1, none⟩ (.int .u32 (k1 : Nat))).setCell ⟨gx, 2, none⟩ (.int .u32 (k2 : Nat))).setCell ⟨gx, 3, none⟩ (.int .u32 (k3 : Nat))).setCell ⟨gx, 4, none⟩ (.int .u32 (k4 : Nat))).setCell ⟨gx, 5, none⟩ (.int .u32 (k5 : Nat))).setCell ⟨gx, 6, none⟩ (.int .u32 (k6 : Nat))).setCell ⟨gx, 7, none⟩ (.int .u32 (k7 : Nat))).setCell ⟨gx, 8, none⟩ (.slice (some ⟨g, off + 64, none⟩) (r'.length - 64) (c' - 64))) gx 184 ([k0, k1, k2, k3, k4, k5, k6, k7].map U ++ [(.slice (some ⟨g, off + 64, none⟩) (r'.length - 64) (c' - 64)), .int .u64 ((m' + 64 : Nat) : Int)]) := bx6
        have ow6 := (OwnW.keep (w' := (((((((((w5.setCell ⟨gx, 0, none⟩ (.int .u32 (k0 : Nat))).setCell ⟨gx, 1, none⟩ (.int .u32 (k1 : Nat))).setCell ⟨gx, 2, none⟩ (.int .u32 (k2 : Nat))).setCell ⟨gx, 3, none⟩ (.int .u32 (k3 : Nat))).setCell ⟨gx, 4, none⟩ (.int .u32 (k4 : Nat))).setCell ⟨gx, 5, none⟩ (.int .u32 (k5 : Nat))).setCell ⟨gx, 6, none⟩ (.int .u32 (k6 : Nat))).setCell ⟨gx, 7, none⟩ (.int .u32 (k7 : Nat))).setCell ⟨gx, 8, none⟩ (.slice (some ⟨g, off + 64, none⟩) (r'.length - 64) (c' - 64)))) ow5 fun a ha => hs6.block a.block (ow5.lt ha).2 (hgx a ha)).drop (k := 64) (by omega)
        rw [Option.map_some, show (⟨g, off, none⟩ : Addr).add 64 = ⟨g, off + 64, none⟩ from by simp [Addr.add]] at ow6
        have hq8n := Lib.hid (bx6.cell (j := 8) rfl)
        have Hbx6 := Lib.hid bx6
        clear bx6
        go_wp2_with fail
        go_roundw
        case rel => exact ⟨⟨[k0, k1, k2, k3, k4, k5, k6, k7], m' + 64, r'.drop 64, some ⟨g, off + 64, none⟩, c' - 64, ⟨by rw [List.length_drop]; exact Hbx6.out, ow6, Hd2.out⟩⟩, hB6⟩
        case measure =>
          rw [Q8.out, hq8n.out]
          show r'.length - 64 < r'.length
          omega
    · have hltI : ¬ (64 : Int) < (r'.length : Int) := by omega
      go_wp2_with fail
      go_end0
      exact ⟨rfl, ⟨h', m', r', A', c', hx, by omega⟩, hbel⟩
end Go.Proofs.YtemjoiaapfhenaaGreatDoor
