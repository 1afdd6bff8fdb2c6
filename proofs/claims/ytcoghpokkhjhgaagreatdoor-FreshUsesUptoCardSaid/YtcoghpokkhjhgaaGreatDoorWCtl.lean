/- Walks: directives: the first of a name; its seconds; the program's and the reference's. -/
import Derived.Test.YtcoghpokkhjhgaaGreatDoorWIs
import Derived.Test.YtcoghpokkhjhgaaGreatDoorEncD
import Derived.Test.YtcoghpokkhjhgaaGreatDoorSpecs
import Derived.Test.YtcoghpokkhjhgaaGreatDoorBox
import Derived.Deep.QuietTactic
import Derived.BigQuiet
namespace Go.Proofs.YtcoghpokkhjhgaaGreatDoor
open Go.RowKit Go.Larder
set_option linter.unusedVariables false
set_option linter.unusedSimpArgs false

abbrev dirV (d : Dir) : Value := .agg #[S d.1, .bool d.2.1, S d.2.2]

theorem findD_len {nm : List UInt8} : ∀ {l : List Dir}, (∀ d ∈ l, d.2.2.length ≤ 140737488351232) → (findD nm l).1.2.2.length ≤ 140737488351232
  | [], _ => by simp [findD]
  | d :: l, h => by
    unfold findD
    split
    · exact h d (by simp)
    · exact findD_len fun x hx => h x (by simp [hx])

set_option maxHeartbeats 1000000 in
theorem w_find (nm : List UInt8) (l : List Dir) (hl : l.length ≤ 140737488351232) (A : Option Addr) (c : Nat) (w : World) (hr : ReadL encD w w.heap.size A l) :
    Calls Tryz.prog 45 #[.slice A l.length c, S nm] w fun e w' => e = .returned (.tuple #[dirV (findD nm l).1, .bool (findD nm l).2]) ∧ Below w.heap.size w w' := by
  go_enter Tryz.func45, Tryz.ntmps45
  go_wp2_with fail
  have hres0 : (w.alloc (.cells #[S [], .bool false, S []] 55)).heap[w.heap.size]? = some (.cells #[S [], .bool false, S []] 55 (0, 0)) := by show (w.heap.push _)[w.heap.size]? = _; simp
  go_loopw [10] (fun i' wr => ∃ k : Nat, i' = .int .i64 k ∧ k ≤ l.length ∧ findD nm (l.drop k) = findD nm l ∧ Below w.heap.size w wr ∧ w.heap.size < wr.heap.size ∧ wr.heap[w.heap.size]? = some (.cells #[S [], .bool false, S []] 55 (0, 0))) (fun i' _ => l.length - (intOf i').toNat)
  case atStart => exact ⟨0, rfl, by omega, rfl, (Below.refl _ _).alloc (Nat.le_refl _) _, by simp, hres0⟩
  case round =>
    obtain ⟨k, rfl, hk, heq, hbel, hlt0, hres⟩ := hrel
    have hbs := hbel.size
    have q0 : wr.cell? ⟨w.heap.size, 0, none⟩ = some (S []) := by rw [Lib.cell_of_heap hres]; rfl
    have q1 : wr.cell? ⟨w.heap.size, 1, none⟩ = some (.bool false) := by rw [Lib.cell_of_heap hres]; rfl
    have q2 : wr.cell? ⟨w.heap.size, 2, none⟩ = some (S []) := by rw [Lib.cell_of_heap hres]; rfl
    have r0 : wr.frozen? ⟨w.heap.size, 0, none⟩ = false := Lib.frozen_of_heap hres 0
    have r1 : wr.frozen? ⟨w.heap.size, 1, none⟩ = false := Lib.frozen_of_heap hres 1
    have r2 : wr.frozen? ⟨w.heap.size, 2, none⟩ = false := Lib.frozen_of_heap hres 2
    by_cases hlt : k < l.length
    · obtain ⟨⟨n, b, a⟩, hfx, hs⟩ := drop_step hlt
      obtain ⟨g, off, rfl, hgb, hc0, hc1, hc2⟩ := (hr.below hbel (Nat.le_refl _)).at_D hfx
      rw [hs, findD] at heq
      cases hw : (n == nm)
      · rw [if_neg (by simp [hw])] at heq
        have Heq := Lib.hid heq; clear heq hs hfx
        go_wp2_with fail
        go_roundw
        case rel => exact ⟨k + 1, by go_num, by omega, Heq.out, hbel.alloc hbs _, by simp; omega, (Below.heap_alloc _ _ _ hlt0).trans hres⟩
        case measure => simp [intOf]; omega
      · rw [if_pos hw] at heq
        have Heq := Lib.hid heq; clear heq hs hfx
        go_wp2_with fail
        refine bodyPost_ret (results_box2 (by rfl) _ _ w.heap.size [S n, .bool b, S a] _ (by rfl) (fun j v hv => (World.cell?_alloc_lt _ _ _ (by simpa using hlt0)).trans (stored3 q0 q1 q2 j v hv)) Tryz.underlying55 (by rfl) (by kernel_rfl)) rfl ?_
        rw [← Heq.out]
        exact ⟨rfl, (below_stored3 hbel (Nat.le_refl _)).alloc (by simp; omega) _⟩
    · rw [drop_end hlt, findD] at heq
      have Heq := Lib.hid heq; clear heq
      go_wp2_with fail
      refine bodyPost_ret (results_box2 (by rfl) _ _ w.heap.size [S [], .bool false, S []] _ (by rfl) (stored3 q0 q1 q2) Tryz.underlying55 (by rfl) (by kernel_rfl)) rfl ?_
      rw [← Heq.out]
      exact ⟨rfl, below_stored3 hbel (Nat.le_refl _)⟩

set_option maxHeartbeats 1000000 in
theorem w_findR (nm : List UInt8) (l : List Dir) (hl : l.length ≤ 140737488351232) (A : Option Addr) (c : Nat) (w : World) (hr : ReadL encD w w.heap.size A l) :
    Calls Tryz.prog 25 #[.slice A l.length c, S nm] w fun e w' => e = .returned (.tuple #[dirV (findD nm l).1, .bool (findD nm l).2]) ∧ Below w.heap.size w w' := by
  go_enter Tryz.func25, Tryz.ntmps25
  go_wp2_with fail
  have hres0 : (w.alloc (.cells #[S [], .bool false, S []] 55)).heap[w.heap.size]? = some (.cells #[S [], .bool false, S []] 55 (0, 0)) := by show (w.heap.push _)[w.heap.size]? = _; simp
  go_loopw [10] (fun i' wr => ∃ k : Nat, i' = .int .i64 k ∧ k ≤ l.length ∧ findD nm (l.drop k) = findD nm l ∧ Below w.heap.size w wr ∧ w.heap.size < wr.heap.size ∧ wr.heap[w.heap.size]? = some (.cells #[S [], .bool false, S []] 55 (0, 0))) (fun i' _ => l.length - (intOf i').toNat)
  case atStart => exact ⟨0, rfl, by omega, rfl, (Below.refl _ _).alloc (Nat.le_refl _) _, by simp, hres0⟩
  case round =>
    obtain ⟨k, rfl, hk, heq, hbel, hlt0, hres⟩ := hrel
    have hbs := hbel.size
    have q0 : wr.cell? ⟨w.heap.size, 0, none⟩ = some (S []) := by rw [Lib.cell_of_heap hres]; rfl
    have q1 : wr.cell? ⟨w.heap.size, 1, none⟩ = some (.bool false) := by rw [Lib.cell_of_heap hres]; rfl
    have q2 : wr.cell? ⟨w.heap.size, 2, none⟩ = some (S []) := by rw [Lib.cell_of_heap hres]; rfl
    have r0 : wr.frozen? ⟨w.heap.size, 0, none⟩ = false := Lib.frozen_of_heap hres 0
    have r1 : wr.frozen? ⟨w.heap.size, 1, none⟩ = false := Lib.frozen_of_heap hres 1
    have r2 : wr.frozen? ⟨w.heap.size, 2, none⟩ = false := Lib.frozen_of_heap hres 2
    by_cases hlt : k < l.length
    · obtain ⟨⟨n, b, a⟩, hfx, hs⟩ := drop_step hlt
      obtain ⟨g, off, rfl, hgb, hc0, hc1, hc2⟩ := (hr.below hbel (Nat.le_refl _)).at_D hfx
      rw [hs, findD] at heq
      cases hw : (n == nm)
      · rw [if_neg (by simp [hw])] at heq
        have Heq := Lib.hid heq; clear heq hs hfx
        go_wp2_with fail
        go_roundw
        case rel => exact ⟨k + 1, by go_num, by omega, Heq.out, hbel.alloc hbs _, by simp; omega, (Below.heap_alloc _ _ _ hlt0).trans hres⟩
        case measure => simp [intOf]; omega
      · rw [if_pos hw] at heq
        have Heq := Lib.hid heq; clear heq hs hfx
        go_wp2_with fail
        refine bodyPost_ret (results_box2 (by rfl) _ _ w.heap.size [S n, .bool b, S a] _ (by rfl) (fun j v hv => (World.cell?_alloc_lt _ _ _ (by simpa using hlt0)).trans (stored3 q0 q1 q2 j v hv)) Tryz.underlying55 (by rfl) (by kernel_rfl)) rfl ?_
        rw [← Heq.out]
        exact ⟨rfl, (below_stored3 hbel (Nat.le_refl _)).alloc (by simp; omega) _⟩
    · rw [drop_end hlt, findD] at heq
      have Heq := Lib.hid heq; clear heq
      go_wp2_with fail
      refine bodyPost_ret (results_box2 (by rfl) _ _ w.heap.size [S [], .bool false, S []] _ (by rfl) (stored3 q0 q1 q2) Tryz.underlying55 (by rfl) (by kernel_rfl)) rfl ?_
      rw [← Heq.out]
      exact ⟨rfl, below_stored3 hbel (Nat.le_refl _)⟩
set_option maxHeartbeats 1000000 in
theorem w_Has (nm : List UInt8) (l : List Dir) (hl : l.length ≤ 140737488351232) (A : Option Addr) (c : Nat) (w : World) (hr : ReadL encD w w.heap.size A l) :
    Calls Tryz.prog 19 #[.slice A l.length c, S nm] w fun e w' => e = .returned (.bool (findD nm l).2) ∧ Below w.heap.size w w' := by
  go_enter Tryz.func19, Tryz.ntmps19
  go_wp2_with fail
  refine (w_find nm l hl A c _ hr).mono ?_
  rintro e w1 ⟨rfl, hb1⟩
  go_wp2_with fail
  go_ret
  exact ⟨rfl, hb1.alloc hb1.size _⟩

theorem digB (x : UInt8) (h : inTab tensTab x = true) : 48 ≤ x.toNat ∧ x.toNat ≤ 57 := by rw [tens_eq] at h; exact of_decide_eq_true h
theorem digN (x : UInt8) (h : inTab tensTab x = false) : ¬ (48 ≤ x.toNat ∧ x.toNat ≤ 57) := by rw [tens_eq] at h; exact of_decide_eq_false h
theorem secGo_cons (n : Int) (c : UInt8) (l : List UInt8) : secGo n (c :: l) = secGo (min (10 * n + (c.toNat - 48)) 2147483648) l := rfl

set_option maxHeartbeats 1000000 in
theorem w_Seconds' (nm : List UInt8) (l : List Dir) (hl : l.length ≤ 140737488351232) (hx : ∀ d ∈ l, d.2.2.length ≤ 140737488351232) (A : Option Addr) (c : Nat) (w : World) (hr : ReadL encD w w.heap.size A l) (d1 : List UInt8) (d2 : Bool) (d3 : List UInt8) (is : Bool) (hfd : findD nm l = ((d1, d2, d3), is)) :
    Calls Tryz.prog 20 #[.slice A l.length c, S nm] w fun e w' => e = .returned (.tuple #[.int .i64 (secs d3), .bool is]) ∧ Below w.heap.size w w' := by
  have hlen0 : (findD nm l).1.2.2.length ≤ 140737488351232 := findD_len hx
  rw [hfd] at hlen0
  have hlen : d3.length ≤ 140737488351232 := hlen0
  have hfind := w_find nm l hl A c w hr
  rw [hfd] at hfind
  clear hfd hx hlen0
  go_enter Tryz.func20, Tryz.ntmps20
  go_wp2_with fail
  refine hfind.mono ?_
  rintro e w1 ⟨rfl, hb1⟩
  have hs1 := hb1.size
  go_wp2_with fail
  have hb2 := hb1.alloc hs1 (.cells #[S d1, .bool d2, S d3] 55)
  have hc2 : (w1.alloc (.cells #[S d1, .bool d2, S d3] 55)).cell? ⟨w1.heap.size, 2, none⟩ = some (S d3) := by rw [cell_of_row _ _ _ _ _ (0, 0) (heap_alloc_new w1 _)]; rfl
  go_loop [8, 20] (fun n' i' => ∃ (k : Nat) (n : Int), i' = .int .i64 k ∧ n' = .int .i64 n ∧ k ≤ d3.length ∧ 0 ≤ n ∧ n ≤ 2147483648 ∧ (d3.take k).all (inTab tensTab) = true ∧ secGo n (d3.drop k) = secGo 0 d3) (fun _ i' => d3.length - (intOf i').toNat)
  case atStart => exact ⟨0, 0, rfl, rfl, by omega, by omega, by omega, rfl, rfl⟩
  case round =>
    obtain ⟨k, n, rfl, rfl, hk, hn0, hn1, hall, heq⟩ := hrel
    by_cases hlt : k < d3.length
    · obtain ⟨x, hx, hs⟩ := drop_step hlt
      have Hall := Lib.hid hall; clear hall
      have Hx := Lib.hid hx
      have hg : ∀ h, d3[k]'h = x := fun h => by rw [List.getElem?_eq_getElem h] at hx; exact Option.some.inj hx
      rw [hs, secGo_cons] at heq
      have Heq := Lib.hid heq; clear heq hs
      have hx8 := x.toNat_lt
      cases ht : inTab tensTab x
      · have hno := digN x ht
        have hres : secs d3 = 0 := secs_no (all_bad Hx.out ht)
        by_cases h1 : (x.toNat : Int) < 48
        · go_wp2_with fail
          go_ret2
          try rw [hres]
          exact ⟨rfl, hb2⟩
        · have h2 : (57 : Int) < (x.toNat : Int) := by omega
          go_wp2_with fail
          go_ret2
          try rw [hres]
          exact ⟨rfl, hb2⟩
      · obtain ⟨h48, h57⟩ := digB x ht
        have h1 : ¬ (x.toNat : Int) < 48 := by omega
        have h2 : ¬ (57 : Int) < (x.toNat : Int) := by omega
        have e1 : IntKind.i64.wrap (10 * n) = 10 * n := IntWalk.i64_in _ ⟨by omega, by omega⟩
        have e2 : IntKind.u8.wrap ((x.toNat : Int) - 48) = (x.toNat : Int) - 48 := by rw [IntKind.wrap_u8]; omega
        have e3 : IntKind.i64.wrap ((x.toNat : Int) - 48) = (x.toNat : Int) - 48 := IntWalk.i64_in _ ⟨by omega, by omega⟩
        have e4 : IntKind.i64.wrap (10 * n + ((x.toNat : Int) - 48)) = 10 * n + ((x.toNat : Int) - 48) := IntWalk.i64_in _ ⟨by omega, by omega⟩
        by_cases hm : 10 * n + ((x.toNat : Int) - 48) ≤ 2147483648
        · have hm2 : 10 * n + ((x.toNat : Int) - 48) < 2147483648 + 1 := by omega
          go_wp2_with fail
          go_round
          case rel => exact ⟨k + 1, 10 * n + ((x.toNat : Int) - 48), by go_num, by first | rfl | (simp [hm]; done), by omega, by omega, by omega, all_step Hx.out Hall.out ht, by rw [← Heq.out]; congr 1; omega⟩
          case measure => simp [intOf]; omega
        · go_wp2_with fail
          go_round
          case rel => exact ⟨k + 1, 2147483648, by go_num, by first | rfl | (simp [hm]; done), by omega, by omega, by omega, all_step Hx.out Hall.out ht, by rw [← Heq.out]; congr 1; omega⟩
          case measure => simp [intOf]; omega
    · obtain rfl : k = d3.length := by omega
      rw [List.take_length] at hall
      rw [List.drop_length] at heq
      have hres : secs d3 = n := by rw [secs_yes hall, ← heq]; rfl
      go_wp2_with fail
      go_ret2
      try rw [hres]
      exact ⟨rfl, hb2⟩

theorem w_Seconds (nm : List UInt8) (l : List Dir) (hl : l.length ≤ 140737488351232) (hx : ∀ d ∈ l, d.2.2.length ≤ 140737488351232) (A : Option Addr) (c : Nat) (w : World) (hr : ReadL encD w w.heap.size A l) :
    Calls Tryz.prog 20 #[.slice A l.length c, S nm] w fun e w' => e = .returned (.tuple #[.int .i64 (secs (findD nm l).1.2.2), .bool (findD nm l).2]) ∧ Below w.heap.size w w' :=
  w_Seconds' nm l hl hx A c w hr _ _ _ _ rfl

set_option maxHeartbeats 1000000 in
theorem w_secondsR (d3 : List UInt8) (hlen : d3.length ≤ 140737488351232) (w : World) :
    Calls Tryz.prog 27 #[S d3] w fun e w' => e = .returned (.int .i64 (secs d3)) ∧ w = w' := by
  cases hall0 : d3.all (inTab tensTab)
  · have hres : secs d3 = 0 := secs_no hall0
    go_enter Tryz.func27, Tryz.ntmps27
    go_wp2_with (go_at_call 51; refine (w_allOf d3 tensTab hlen _).mono ?_; rintro e w' ⟨rfl, rfl⟩)
    go_ret
    try rw [hres]
    exact ⟨rfl, rfl⟩
  · have hdig : ∀ x ∈ d3, inTab tensTab x = true := List.all_eq_true.1 hall0
    have hres : secs d3 = secGo 0 d3 := secs_yes hall0
    try rw [hres]
    go_enter Tryz.func27, Tryz.ntmps27
    go_wp2_with (go_at_call 51; refine (w_allOf d3 tensTab hlen _).mono ?_; rintro e w' ⟨rfl, rfl⟩)
    go_loop [3, 10] (fun n' i' => ∃ (k : Nat) (n : Int), i' = .int .i64 k ∧ n' = .int .i64 n ∧ k ≤ d3.length ∧ 0 ≤ n ∧ n ≤ 2147483648 ∧ secGo n (d3.drop k) = secGo 0 d3) (fun _ i' => d3.length - (intOf i').toNat)
    case atStart => exact ⟨0, 0, rfl, rfl, by omega, by omega, by omega, rfl⟩
    case round =>
      obtain ⟨k, n, rfl, rfl, hk, hn0, hn1, heq⟩ := hrel
      by_cases hlt : k < d3.length
      · obtain ⟨x, hx, hs⟩ := drop_step hlt
        have ht := hdig x (List.mem_of_getElem? hx)
        have hg : ∀ h, d3[k]'h = x := fun h => by rw [List.getElem?_eq_getElem h] at hx; exact Option.some.inj hx
        rw [hs, secGo_cons] at heq
        have Heq := Lib.hid heq; clear heq hs hx
        obtain ⟨h48, h57⟩ := digB x ht
        have e1 : IntKind.i64.wrap (10 * n) = 10 * n := IntWalk.i64_in _ ⟨by omega, by omega⟩
        have e2 : IntKind.u8.wrap ((x.toNat : Int) - 48) = (x.toNat : Int) - 48 := by rw [IntKind.wrap_u8]; omega
        have e3 : IntKind.i64.wrap ((x.toNat : Int) - 48) = (x.toNat : Int) - 48 := IntWalk.i64_in _ ⟨by omega, by omega⟩
        have e4 : IntKind.i64.wrap (10 * n + ((x.toNat : Int) - 48)) = 10 * n + ((x.toNat : Int) - 48) := IntWalk.i64_in _ ⟨by omega, by omega⟩
        by_cases hm : 2147483648 < 10 * n + ((x.toNat : Int) - 48)
        · go_wp2_with fail
          go_round
          case rel => exact ⟨k + 1, 2147483648, by go_num, rfl, by omega, by omega, by omega, by rw [← Heq.out]; congr 1; omega⟩
          case measure => simp [intOf]; omega
        · go_wp2_with fail
          go_round
          case rel => exact ⟨k + 1, 10 * n + ((x.toNat : Int) - 48), by go_num, rfl, by omega, by omega, by omega, by rw [← Heq.out]; congr 1; omega⟩
          case measure => simp [intOf]; omega
      · obtain rfl : k = d3.length := by omega
        rw [List.drop_length] at heq
        have Heq := Lib.hid heq; clear heq
        go_wp2_with fail
        go_ret
        rw [← Heq.out]
        exact ⟨rfl, rfl⟩

set_option maxHeartbeats 1000000 in
theorem w_ControlSecondsR' (nm : List UInt8) (l : List Dir) (hl : l.length ≤ 140737488351232) (hx : ∀ d ∈ l, d.2.2.length ≤ 140737488351232) (A : Option Addr) (c : Nat) (w : World) (hr : ReadL encD w w.heap.size A l) (d1 : List UInt8) (d2 : Bool) (d3 : List UInt8) (is : Bool) (hfd : findD nm l = ((d1, d2, d3), is)) :
    Calls Tryz.prog 28 #[.slice A l.length c, S nm] w fun e w' => e = .returned (.tuple #[.int .i64 (secs d3), .bool is]) ∧ Below w.heap.size w w' := by
  have hlen0 : (findD nm l).1.2.2.length ≤ 140737488351232 := findD_len hx
  rw [hfd] at hlen0
  have hlen : d3.length ≤ 140737488351232 := hlen0
  have hfind := w_findR nm l hl A c w hr
  rw [hfd] at hfind
  clear hfd hx hlen0
  go_enter Tryz.func28, Tryz.ntmps28
  go_wp2_with fail
  refine hfind.mono ?_
  rintro e w1 ⟨rfl, hb1⟩
  have hs1 := hb1.size
  have hc2 : (w1.alloc (.cells #[S d1, .bool d2, S d3] 55)).cell? ⟨w1.heap.size, 2, none⟩ = some (S d3) := by rw [cell_of_row _ _ _ _ _ (0, 0) (heap_alloc_new w1 _)]; rfl
  go_wp2_with (go_at_call 27; refine (w_secondsR d3 hlen _).mono ?_; rintro e w' ⟨rfl, rfl⟩)
  go_ret2
  exact ⟨rfl, hb1.alloc hs1 _⟩
theorem w_ControlSecondsR (nm : List UInt8) (l : List Dir) (hl : l.length ≤ 140737488351232) (hx : ∀ d ∈ l, d.2.2.length ≤ 140737488351232) (A : Option Addr) (c : Nat) (w : World) (hr : ReadL encD w w.heap.size A l) :
    Calls Tryz.prog 28 #[.slice A l.length c, S nm] w fun e w' => e = .returned (.tuple #[.int .i64 (secs (findD nm l).1.2.2), .bool (findD nm l).2]) ∧ Below w.heap.size w w' :=
  w_ControlSecondsR' nm l hl hx A c w hr _ _ _ _ rfl
end Go.Proofs.YtcoghpokkhjhgaaGreatDoor
