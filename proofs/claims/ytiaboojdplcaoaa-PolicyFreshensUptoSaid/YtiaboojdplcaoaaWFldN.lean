/- Walks: slices.Contains at texts; IndexFunc, DeleteFunc at a list of names. -/
import Derived.Test.YtiaboojdplcaoaaWFldD
import Derived.Test.YtiaboojdplcaoaaSpecPol
import Derived.Deep.RegionWith
namespace Go.Proofs.Ytiaboojdplcaoaa
open Go.RowKit Go.Larder
set_option linter.unusedVariables false
set_option linter.unusedSimpArgs false

set_option maxHeartbeats 1000000 in
theorem w_slIndex (x : List UInt8) (l : List (List UInt8)) (hl : l.length ≤ 140737488351232) (A : Option Addr) (c B : Nat) (w : World) (hr : ReadL encS w B A l) :
    Calls Try.prog 105 #[.slice A l.length c, S x] w (fun e w' => e = .returned (.int .i64 (ixS x 0 l)) ∧ w = w') := by
  go_enter Try.func105, Try.ntmps105
  go_wp2_with fail
  go_loop [8] (fun i' => ∃ k : Nat, i' = .int .i64 k ∧ k ≤ l.length ∧ ixS x k (l.drop k) = ixS x 0 l) (fun i' => l.length - (intOf i').toNat)
  case atStart => exact ⟨0, rfl, by omega, rfl⟩
  case round =>
    obtain ⟨k, rfl, hk, heq⟩ := hrel
    by_cases hlt : k < l.length
    · obtain ⟨y, hx, hs⟩ := drop_step hlt
      obtain ⟨b, off, rfl, hb, hcell⟩ := hr.at_S hx
      rw [hs, ixS] at heq
      cases hxy : (x == y)
      · rw [hxy, if_neg (by simp)] at heq
        have Heq := Lib.hid heq; clear heq hx hs
        go_wp2_with fail
        go_round
        case rel => exact ⟨k + 1, by go_num, by omega, Heq.out⟩
        case measure => simp [intOf]; omega
      · rw [hxy, if_pos rfl] at heq
        have Heq := Lib.hid heq; clear heq hx hs
        go_wp2_with fail
        go_ret
        rw [← Heq.out]
        exact ⟨rfl, rfl⟩
    · rw [drop_end hlt, ixS] at heq
      have Heq := Lib.hid heq; clear heq
      go_wp2_with fail
      go_ret
      rw [← Heq.out]
      exact ⟨rfl, rfl⟩
theorem w_slContains (x : List UInt8) (l : List (List UInt8)) (hl : l.length ≤ 140737488351232) (A : Option Addr) (c B : Nat) (w : World) (hr : ReadL encS w B A l) :
    Calls Try.prog 78 #[.slice A l.length c, S x] w (fun e w' => e = .returned (.bool (l.any fun y => x == y)) ∧ w = w') := by
  rw [← ixS_any x l 0]
  go_enter Try.func78, Try.ntmps78
  go_wp2_with (go_at_call 105; refine (w_slIndex x l hl A c B _ hr).mono ?_; rintro e w' ⟨rfl, rfl⟩)
  go_ret
  exact ⟨rfl, rfl⟩

set_option maxHeartbeats 2000000 in
theorem w_wo1 (n v : List UInt8) (ns : List (List UInt8)) (hn : n.length ≤ 140737488351232) (hns : ns.length ≤ 140737488351232) (b : Nat) (An : Option Addr) (cn : Nat) (w : World) (hbl : b < w.heap.size) (hc : w.cell? ⟨b, 0, none⟩ = some (.slice An ns.length cn)) (hr : ReadL encS w w.heap.size An ns) :
    Calls Try.prog 104 #[.agg #[S n, S v], .pointer (some ⟨b, 0, none⟩)] w (fun e w' => e = .returned (.bool (hitsN ns (n, v))) ∧ Below w.heap.size w w') := by
  have hq : (w.alloc (Obj.cells #[S n, S v] 47)).cell? ⟨b, 0, none⟩ = some (.slice An ns.length cn) := (World.cell?_alloc_lt _ _ _ hbl).trans hc
  have hrD : ReadL encS (w.alloc (Obj.cells #[S n, S v] 47)).drew w.heap.size An ns := hr.alloc (Nat.le_refl _) _
  go_enter Try.func104, Try.ntmps104
  go_wp2_with fail
  go_region_with (first
    | (go_at_call 14; refine (w_Lower n hn _).mono ?_; rintro e w1 ⟨rfl, hb⟩
       have hs1 := hb.size
       have hc2 : w1.cell? ⟨b, 0, none⟩ = some (.slice An ns.length cn) := (hb.cell (p := ⟨b, 0, none⟩) (by show b < (w.heap.push _).size; simp; omega)).trans hq
       have hr2 : ReadL encS w1 w1.heap.size An ns := (hrD.below hb (by show w.heap.size ≤ (w.heap.push _).size; simp)).more (by simp at hs1; omega))
    | (go_at_call 78; refine (w_slContains (lowL n) ns hns An cn _ _ hr2).mono ?_; rintro e w' ⟨rfl, rfl⟩))
  all_goals
    go_wp2
    go_ret
    exact ⟨rfl, ((Below.refl w.heap.size w).alloc (Nat.le_refl _) _).drew.trans (hb.mono (by show w.heap.size ≤ (w.heap.push _).size; simp))⟩

/-- slices.IndexFunc at a name. -/
theorem w_fidxN (ns : List (List UInt8)) (hns : ns.length ≤ 140737488351232) (l : List Fld) (hx : ∀ f ∈ l, f.1.length ≤ 140737488351232 ∧ f.2.length ≤ 140737488351232) (hl : l.length ≤ 140737488351232) (A : Option Addr) (c : Nat) (b : Nat) (An : Option Addr) (cn : Nat) (w : World) (hr : ReadL encF w w.heap.size A l) (hbl : b < w.heap.size) (hcell : w.cell? ⟨b, 0, none⟩ = some (.slice An ns.length cn)) (hrn : ReadL encS w w.heap.size An ns) :
    Calls Try.prog 117 #[.slice A l.length c, .func (.func 104) #[] #[.pointer (some ⟨b, 0, none⟩)]] w (fun e w' => e = .returned (.int .i64 (ixP (hitsN ns) 0 l)) ∧ Below w.heap.size w w') := by
  go_enter Try.func117, Try.ntmps117
  go_wp2_with fail
  go_loopw [8] (fun i' wr => ∃ k : Nat, i' = .int .i64 k ∧ k ≤ l.length ∧ ixP (hitsN ns) k (l.drop k) = ixP (hitsN ns) 0 l ∧ Below w.heap.size w wr) (fun i' _ => l.length - (intOf i').toNat)
  case atStart => exact ⟨0, rfl, by omega, rfl, Below.refl _ _⟩
  case round =>
    obtain ⟨k, rfl, hk, heq, hbel⟩ := hrel
    have hbs := hbel.size
    by_cases hlt : k < l.length
    · obtain ⟨⟨n, y⟩, hfx, hs⟩ := drop_step hlt
      have hxl := (hx _ (List.mem_of_getElem? hfx)).1
      obtain ⟨g, off, rfl, hgb, hc0, hc1⟩ := (hr.below hbel (Nat.le_refl _)).at_F hfx
      have hcell2 : wr.cell? ⟨b, 0, none⟩ = some (.slice An ns.length cn) := (hbel.cell (p := ⟨b, 0, none⟩) hbl).trans hcell
      rw [hs, ixP] at heq
      have hrn2 := (hrn.below hbel (Nat.le_refl _)).more hbs
      cases hw : hitsN ns (n, y)
      · rw [hw, if_neg (by simp)] at heq
        have Heq := Lib.hid heq; clear heq hs hfx
        go_wp2_with (go_at_call 104; refine (w_wo1 n y ns hxl hns b An cn _ (by omega) hcell2 hrn2).mono ?_; rintro e w2 ⟨rfl, hb2⟩)
        go_roundw
        case rel => exact ⟨k + 1, by go_num, by omega, Heq.out, hbel.trans (hb2.mono hbs)⟩
        case measure => simp [intOf]; omega
      · rw [hw, if_pos rfl] at heq
        have Heq := Lib.hid heq; clear heq hs hfx
        go_wp2_with (go_at_call 104; refine (w_wo1 n y ns hxl hns b An cn _ (by omega) hcell2 hrn2).mono ?_; rintro e w2 ⟨rfl, hb2⟩)
        go_ret
        exact ⟨by rw [← Heq.out]; rfl, hbel.trans (hb2.mono hbs)⟩
    · rw [drop_end hlt, ixP] at heq
      have Heq := Lib.hid heq; clear heq
      go_wp2_with fail
      go_ret
      exact ⟨by rw [← Heq.out]; rfl, hbel⟩


set_option maxHeartbeats 2000000 in
set_option maxRecDepth 100000 in
theorem w_fdeleteN (ns : List (List UInt8)) (hns : ns.length ≤ 140737488351232) (l : List Fld) (hx : ∀ f ∈ l, f.1.length ≤ 140737488351232 ∧ f.2.length ≤ 140737488351232) (hl : l.length * 32 ≤ 140737488351232) (B : Nat) (A : Option Addr) (c b : Nat) (w : World) (hB : B ≤ w.heap.size)
    (hown : OwnL encF w B 47 A c l) (An : Option Addr) (cn : Nat) (hbB : b < B) (hcell : w.cell? ⟨b, 0, none⟩ = some (.slice An ns.length cn)) (hrn : ReadL encS w B An ns) :
    Calls Try.prog 102 #[.slice A l.length c, .func (.func 104) #[] #[.pointer (some ⟨b, 0, none⟩)]] w
      (fun e w' => (∃ A2 c2, e = .returned (.slice A2 (dropP (hitsN ns) l).length c2) ∧ OwnL encF w' B 47 A2 c2 (dropP (hitsN ns) l)) ∧ Below B w w') := by
  have hl2 : l.length ≤ 140737488351232 := by omega
  have hbl : b < w.heap.size := by omega
  go_enter Try.func102, Try.ntmps102
  rcases ixP_ge (hitsN ns) l 0 with h1 | ⟨m, h1, _, hm, hall, f0, hf0, hit0⟩
  · have hd := dropP_all (ixP_none h1)
    go_wp2_with (go_at_call 117; refine (w_fidxN ns hns l hx hl2 A c b An cn _ hown.read hbl hcell (hrn.more hB)).mono ?_; rintro e w2 ⟨rfl, hb2⟩)
    go_ret
    exact ⟨⟨A, c, by rw [hd]; rfl, by rw [hd]; exact hown.below hb2 (Nat.le_refl _)⟩, hb2.mono hB⟩
  · have hml : m < l.length := by omega
    obtain ⟨g, rfl, hg1, hg2⟩ := hown.some_ (by omega)
    have hgb : g ≠ b := by omega
    have htake : dropP (hitsN ns) (l.take m) = l.take m := dropP_all (by simpa using hall)
    have hdm : dropP (hitsN ns) (l.take (m + 1)) = l.take m := by
      have h8 : l[m]? = some f0 := by simpa using hf0
      rw [List.take_add_one, h8]
      unfold dropP at htake ⊢
      rw [List.filter_append, htake]
      simp [hit0]
    have Hdm := Lib.hid hdm
    clear hdm htake hall hf0
    go_wp2_with (go_at_call 117; refine (w_fidxN ns hns l hx hl2 _ c b An cn _ hown.read hbl hcell (hrn.more hB)).mono ?_; rintro e w2 ⟨rfl, hb2⟩)
    go_loopw [5, 6] (fun i' j' wr => ∃ (i j : Nat) (cur : List Fld), i' = .int .i64 i ∧ j' = .int .i64 j ∧ i < j ∧ j ≤ l.length ∧ cur.length = l.length ∧ cur.take i = dropP (hitsN ns) (l.take j) ∧ cur.drop j = l.drop j ∧
      OwnL encF wr B 47 (some ⟨g, 0, none⟩) c cur ∧ Below B w wr) (fun _ j' _ => l.length - (intOf j').toNat)
    case atStart => exact ⟨m, m + 1, l, rfl, by go_num, by omega, by omega, rfl, Hdm.out.symm, rfl, hown.below hb2 (Nat.le_refl _), hb2.mono hB⟩
    case round =>
      obtain ⟨i, j, cur, rfl, rfl, hij, hj, hcl, htk, hdr, hown2, hbel⟩ := hrel
      have hbs := hbel.size
      have hbl2 : b < wr.heap.size := by omega
      have hcell2 : wr.cell? ⟨b, 0, none⟩ = some (.slice An ns.length cn) := (hbel.cell (p := ⟨b, 0, none⟩) hbB).trans hcell
      have hrn2 := (hrn.below hbel (Nat.le_refl _)).more (show B ≤ wr.heap.size by omega)
      by_cases hlt : j < l.length
      · obtain ⟨⟨n, y⟩, hfx, hs⟩ := drop_step hlt
        have hxl := (hx _ (List.mem_of_getElem? hfx)).1
        have hcj : cur[j]? = some (n, y) := by
          have := congrArg (fun t => t[0]?) hdr
          simpa [hfx] using this
        have hci : ∃ q, cur[i]? = some q := ⟨cur[i]'(by omega), List.getElem?_eq_getElem (by omega)⟩
        obtain ⟨q, hci⟩ := hci
        obtain ⟨hc0, hc1⟩ := hown2.get_F hcj
        have hgw := (hown2.lt _ rfl).2
        have hcell3 : (wr.alloc (.cells #[S n, S y] 47)).cell? ⟨b, 0, none⟩ = some (.slice An ns.length cn) := (World.cell?_alloc_lt _ _ _ hbl2).trans hcell2
        have hrn3 := (hrn2.alloc (Nat.le_refl _) (.cells #[S n, S y] 47)).more (B' := (wr.alloc (.cells #[S n, S y] 47)).heap.size) (by simp)
        have hb3s : ∀ {w3 : World}, Below (wr.alloc (.cells #[S n, S y] 47)).heap.size (wr.alloc (.cells #[S n, S y] 47)) w3 → wr.heap.size + 1 ≤ w3.heap.size := fun h => by have := h.size; simpa using this
        have hBw : B ≤ wr.heap.size := by omega
        have hstep : dropP (hitsN ns) (l.take (j + 1)) = dropP (hitsN ns) (l.take j) ++ (if hitsN ns (n, y) then [] else [(n, y)]) := by
          rw [List.take_add_one, hfx]
          unfold dropP
          rw [List.filter_append]
          by_cases h : hitsN ns (n, y) = true <;> simp [h]
        have hdr2 : cur.drop (j + 1) = l.drop (j + 1) := by
          have := congrArg (List.drop 1) hdr
          simpa [List.drop_drop] using this
        have Hcj := Lib.hid hcj; clear hcj hs hfx hdr
        cases hw : hitsN ns (n, y)
        · rw [hw, if_neg (by simp)] at hstep
          have Hstep := Lib.hid hstep; clear hstep
          have Htk := Lib.hid htk; clear htk
          have Hdr2 := Lib.hid hdr2; clear hdr2
          go_wp2_with (go_at_call 104
                       refine (w_wo1 n y ns hxl hns b An cn _ (by simp; omega) hcell3 hrn3).mono ?_
                       rintro e w3 ⟨rfl, hb3⟩
                       have hsz3 := hb3s hb3
                       have hbx := box_kept hb3
                       have hx0 : w3.cell? ⟨wr.heap.size, 0, none⟩ = some (S n) := by rw [Lib.cell_of_heap hbx]; rfl
                       have hx1 : w3.cell? ⟨wr.heap.size, 1, none⟩ = some (S y) := by rw [Lib.cell_of_heap hbx]; rfl
                       have hown3 := (hown2.alloc (.cells #[S n, S y] 47)).below hb3 (Nat.le_refl _)
                       have hq0 := (hown3.get_F hci).1
                       have hq1 := (hown3.get_F hci).2
                       have hf0 := hown3.frozen (i * 2)
                       have hf1 := hown3.frozen (i * 2 + 1))
          go_roundw
          case rel =>
            refine ⟨_, _, _, _, _, _, _, _, _, _, _, _, _, _, _, _, _, _, _, _, _, _, _, ?_, rfl⟩
            refine ⟨i + 1, j + 1, cur.set i (n, y), by go_num, by go_num, by omega, by omega, by simp [hcl], ?_, ?_, hown3.set_F i (n, y), ?_⟩
            · rw [Hstep.out, ← Htk.out, List.take_add_one, List.getElem?_set_self (by omega), List.take_set_of_le (Nat.le_refl i)]; rfl
            · rw [List.drop_set_of_lt (by omega), Hdr2.out]
            · exact ((((hbel.alloc hBw _).trans (hb3.mono (by simp; omega))).setCell (p := ⟨g, i * 2, none⟩) hg1 _).setCell (p := ⟨g, i * 2 + 1, none⟩) hg1 _)
          case measure => simp [intOf]; omega
        · rw [hw, if_pos rfl] at hstep
          have Hstep := Lib.hid hstep; clear hstep
          have Htk := Lib.hid htk; clear htk
          have Hdr2 := Lib.hid hdr2; clear hdr2
          go_wp2_with (go_at_call 104
                       refine (w_wo1 n y ns hxl hns b An cn _ (by simp; omega) hcell3 hrn3).mono ?_
                       rintro e w3 ⟨rfl, hb3⟩
                       have hsz3 := hb3s hb3
                       have hown3 := (hown2.alloc (.cells #[S n, S y] 47)).below hb3 (Nat.le_refl _))
          go_roundw
          case rel =>
            refine ⟨_, _, _, _, _, _, _, _, _, _, _, _, _, _, _, _, _, _, _, _, _, _, _, ?_, rfl⟩
            refine ⟨i, j + 1, cur, by go_num, by go_num, by omega, by omega, hcl, ?_, Hdr2.out, hown3, ?_⟩
            · rw [Hstep.out, ← Htk.out]; simp
            · exact (hbel.alloc hBw _).trans (hb3.mono (by simp; omega))
          case measure => simp [intOf]; omega
      · obtain rfl : j = l.length := by omega
        rw [List.take_length] at htk
        have hil : (dropP (hitsN ns) l).length = i := by rw [← htk, List.length_take]; omega
        have hcl2 : ∃ vs, (Builtin.clear_ #[28] 0 #[.slice (some ⟨g, i * 2, none⟩) (l.length - i) (c - i)]).run Try.prog wr = .ok (.tuple #[]) (wr.setCells g (i * 2) vs) := by
          refine run_clear2 wr 28 47 0 _ _ _ Try.underlying28 zero_field rfl rfl rfl g (i * 2) (l.length - i) (c - i) (by omega) (fun k hk => ?_) (fun k hk => hown2.frozen _)
          obtain ⟨z0, hz0⟩ : ∃ z, cur[i + k / 2]? = some z := ⟨cur[i + k / 2]'(by omega), List.getElem?_eq_getElem (by omega)⟩
          have hz := hown2.get_F hz0
          rcases Nat.mod_two_eq_zero_or_one k with h | h
          · rw [show i * 2 + k = (i + k / 2) * 2 from by omega, hz.1]; rfl
          · rw [show i * 2 + k = (i + k / 2) * 2 + 1 from by omega, hz.2]; rfl
        obtain ⟨vs, hclr⟩ := hcl2
        obtain ⟨xs', ho1, ho2⟩ := own_setCells vs (i * 2) wr _ hown2
        have ho3 := row_take ho1 i (by omega)
        rw [show xs'.take (i * encF.size) = (cur.flatMap encF.enc).take (i * 2) from ho2] at ho3
        have ho4 : OwnL encF (wr.setCells g (i * 2) vs) B 47 (some ⟨g, 0, none⟩) c (dropP (hitsN ns) l) := by
          have h5 := row_take hown2 i (by omega)
          unfold OwnL
          rw [hil, ← htk]
          have h6 : (cur.flatMap encF.enc).take (i * 2) = (cur.take i).flatMap encF.enc := by
            have h7 := (hown2.take i (by omega)).1
            have h8 : cur.flatMap encF.enc = (cur.take i).flatMap encF.enc ++ (cur.drop i).flatMap encF.enc := by rw [← List.flatMap_append, List.take_append_drop]
            rw [h8, List.take_left' (by rw [h7, List.length_take]; show _ * 2 = _; congr 1; omega)]
          rw [← h6]
          exact ho3
        have hlc := hown2.le_cap
        have hic1 : i ≤ c := by omega
        have hic2 : i < c := by omega
        have hic3 : ¬ c = i := by omega
        have hic4 : i < l.length := hij
        go_wp2_with fail
        go_ret
        exact ⟨⟨_, c, by rw [hil]; rfl, ho4⟩, below_setCells vs g _ _ _ hg1 hbel⟩
end Go.Proofs.Ytiaboojdplcaoaa
