/- WDppR, WDtE -/
import Derived.Test.YtemjoiaapfhenaaGreatDoorGd03
import Derived.Test.YtemjoiaapfhenaaGreatDoorGd04
import Derived.Test.YtemjoiaapfhenaaGreatDoorGd02
import Derived.Test.YtemjoiaapfhenaaGreatDoorGd00
import Derived.Test.YtemjoiaapfhenaaGreatDoorGd01
import Derived.Test.YtemjoiaapfhenaaGreatDoorWDpp

/- WDppR -/
section
namespace Go.Proofs.YtemjoiaapfhenaaGreatDoor
open Go.RowKit Go.Larder
set_option linter.unusedVariables false
set_option linter.unusedSimpArgs false

theorem w_trimL0 (l : List UInt8) (hl : l.length ≤ 140737488351232) (w : World) :
    Calls Tryz.prog 142 #[S l, .int .u8 48] w fun e w' => e = .returned (S (l.dropWhile z48)) ∧ w = w' := by
  go_enter Tryz.func142, Tryz.ntmps142
  go_wp2_with fail
  go_loop [0] (fun v => ∃ r : List UInt8, v = S r ∧ r.length ≤ l.length ∧ r.dropWhile z48 = l.dropWhile z48) (fun v => lenOf v)
  case atStart => exact ⟨_, rfl, Nat.le_refl _, rfl⟩
  case round =>
    obtain ⟨r, rfl, hr, hd⟩ := hrel
    have Hd := Lib.hid hd; clear hd
    rcases r with _ | ⟨a, r⟩
    · go_wp2_with fail
      go_ret
      exact ⟨ret_S (by rw [← Hd.out]; rfl), rfl⟩
    · simp only [List.length_cons] at hr
      have hq := u8_beq a 48 (by omega)
      rw [show ((48 : Nat) : Int) = 48 from rfl] at hq
      cases hb : z48 a
      · have h1 : ((a.toNat : Int) == 48) = false := by rw [hq]; exact hb
        clear hq
        go_wp2_with fail
        go_ret
        exact ⟨ret_S (by rw [← Hd.out, List.dropWhile_cons, hb]; rfl), rfl⟩
      · have h1 : ((a.toNat : Int) == 48) = true := by rw [hq]; exact hb
        clear hq
        go_wp2_with fail
        exact ⟨⟨r, rfl, by omega, by rw [← Hd.out, List.dropWhile_cons, hb]; rfl⟩, by simp [lenOf_S]⟩
theorem w_TrimLeft0 (l : List UInt8) (hl : l.length ≤ 140737488351232) (w : World) :
    Calls Tryz.prog 80 #[S l, S [48]] w fun e w' => e = .returned (S (l.dropWhile z48)) ∧ w = w' := by
  rcases l with _ | ⟨a, l⟩
  · go_enter Tryz.func80, Tryz.ntmps80
    go_wp2_with fail
    go_ret
    exact ⟨rfl, rfl⟩
  · have h := fun w => w_trimL0 (a :: l) hl w
    have hne : (a :: l).isEmpty = false := rfl
    generalize a :: l = L at *
    go_enter Tryz.func80, Tryz.ntmps80
    go_wp2_with (go_at_call 142; refine (h _).mono ?_; rintro e w' ⟨rfl, rfl⟩)
    go_ret
    exact ⟨rfl, rfl⟩

theorem keepAt {α : Type} {E : ElemT α} {w w' : World} {B g off : Nat} {l : List α} (h : ReadL E w B (some ⟨g, off, none⟩) l) (hk : ∀ p : Addr, p.block = g → w'.cell? p = w.cell? p) : ReadL E w' B (some ⟨g, off, none⟩) l := fun hn => by
  obtain ⟨b, o, hA, hb, hc⟩ := h hn
  injection hA with hA
  injection hA with h1 h2
  subst h1 h2
  exact ⟨_, _, rfl, hb, fun k a ha j u hu => (hk _ rfl).trans (hc k a ha j u hu)⟩
theorem cell_otherB (w : World) (a : Addr) (v : Value) (p : Addr) (h : p.block ≠ a.block) : (w.setCell a v).cell? p = w.cell? p := by
  unfold World.cell?
  rw [heap_setCell_other w a p.block v h]
theorem map_set_step (f : List UInt8 → Value) (z : Value) : ∀ (l : List (List UInt8)) (k : Nat) (x : List UInt8), l[k]? = some x →
    ((l.take k).map f ++ List.replicate (l.length - k) z).set k (f x) = (l.take (k + 1)).map f ++ List.replicate (l.length - (k + 1)) z
  | [], k, x, h => by simp at h
  | y :: l, 0, x, h => by
    simp at h
    subst h
    simp [List.replicate_succ]
  | y :: l, k + 1, x, h => by
    rw [List.getElem?_cons_succ] at h
    have := map_set_step f z l k x h
    simp only [List.take_succ_cons, List.map_cons, List.cons_append, List.set_cons_succ, List.length_cons]
    rw [show l.length + 1 - (k + 1) = l.length - k from by omega, show l.length + 1 - (k + 1 + 1) = l.length - (k + 1) from by omega, this]
set_option maxHeartbeats 4000000 in
set_option maxRecDepth 100000 in
theorem w_DParseR (l : List UInt8) (hl : l.length ≤ 140737488351232) (w : World) (hM : ML w) :
    Calls Tryz.prog 25 #[S l] w (DateOut w l) := by
  have hgood := fun n h => isDate_goodR (n := n) (l := l) h
  by_cases hlen : l.length = 29
  · have hno : (∀ k, ¬ RGood l k) → ∀ n, ¬ isDate n l := fun h n hn => by obtain ⟨k, hk, _⟩ := hgood n hn; exact h k hk
    have hlen2 : l.length ≤ 29 := by omega
    have hlen3 : 29 ≤ l.length := by omega
    have hle : l.isEmpty = false := by cases l with
      | nil => simp at hlen
      | cons _ _ => rfl
    have hN : ∀ k, rN l k = dayN (av (seg l 12 16)) (max 0 (av (seg l 5 7))) k * 86400 + max 0 (av (seg l 17 19)) * 3600 + max 0 (av (seg l 20 22)) * 60 + max 0 (av (seg l 23 25)) := fun k => rfl
    have hg1 := fun k (h : RGood l k) => h.mon
    have hg2 := fun k (h : RGood l k) => h.din
    have hg3 := fun k (h : RGood l k) => h.dig
    have s1 : ∀ w, (Instr.slice 9 (.string ⟨l.toArray⟩) (some (.int .i64 8)) (some (.int .i64 11)) none).run Tryz.prog w = .ok (.string ⟨(seg l 8 11).toArray⟩) w := slice_seg l 8 11 (by omega) (by omega)
    have s2 : ∀ w, (Instr.slice 9 (.string ⟨l.toArray⟩) (some (.int .i64 12)) (some (.int .i64 16)) none).run Tryz.prog w = .ok (.string ⟨(seg l 12 16).toArray⟩) w := slice_seg l 12 16 (by omega) (by omega)
    have s3 : ∀ w, (Instr.slice 9 (.string ⟨l.toArray⟩) (some (.int .i64 5)) (some (.int .i64 7)) none).run Tryz.prog w = .ok (.string ⟨(seg l 5 7).toArray⟩) w := slice_seg l 5 7 (by omega) (by omega)
    have s4 : ∀ w, (Instr.slice 9 (.string ⟨l.toArray⟩) (some (.int .i64 17)) (some (.int .i64 19)) none).run Tryz.prog w = .ok (.string ⟨(seg l 17 19).toArray⟩) w := slice_seg l 17 19 (by omega) (by omega)
    have s5 : ∀ w, (Instr.slice 9 (.string ⟨l.toArray⟩) (some (.int .i64 20)) (some (.int .i64 22)) none).run Tryz.prog w = .ok (.string ⟨(seg l 20 22).toArray⟩) w := slice_seg l 20 22 (by omega) (by omega)
    have s6 : ∀ w, (Instr.slice 9 (.string ⟨l.toArray⟩) (some (.int .i64 23)) (some (.int .i64 25)) none).run Tryz.prog w = .ok (.string ⟨(seg l 23 25).toArray⟩) w := slice_seg l 23 25 (by omega) (by omega)
    have l2 := Nat.le_of_eq (seg_len (l := l) (a := 12) (b := 16) (by omega))
    have l3 := Nat.le_of_eq (seg_len (l := l) (a := 5) (b := 7) (by omega))
    have l4 := Nat.le_of_eq (seg_len (l := l) (a := 17) (b := 19) (by omega))
    have l5 := Nat.le_of_eq (seg_len (l := l) (a := 20) (b := 22) (by omega))
    have l6 := Nat.le_of_eq (seg_len (l := l) (a := 23) (b := 25) (by omega))
    have b2 := av_bd (l := seg l 12 16) (by omega)
    have b3 := av_bd (l := seg l 5 7) (by omega)
    have b4 := av_bd (l := seg l 17 19) (by omega)
    have b5 := av_bd (l := seg l 20 22) (by omega)
    have b6 := av_bd (l := seg l 23 25) (by omega)
    have hix : ∀ w, ML w → Calls Tryz.prog 71 #[.string ⟨#[74, 97, 110, 32, 70, 101, 98, 32, 77, 97, 114, 32, 65, 112, 114, 32, 77, 97, 121, 32, 74, 117, 110, 32, 74, 117, 108, 32, 65, 117, 103, 32, 83, 101, 112, 32, 79, 99, 116, 32, 78, 111, 118, 32, 68, 101, 99]⟩, .string ⟨(seg l 8 11).toArray⟩] w fun e w' => e = .returned (.int .i64 (Lib.index mon2L (seg l 8 11))) ∧ w = w' := fun w hM => w_Index mon2L (seg l 8 11) (by decide) w hM
    have hixc := index_cases mon2L (seg l 8 11)
    rw [seg_len (by omega)] at hixc
    have hsegs : segsR l = [seg l 5 7, seg l 12 16, seg l 17 19, seg l 20 22, seg l 23 25] := rfl
    generalize seg l 8 11 = M0 at *
    generalize seg l 12 16 = M2 at *
    generalize seg l 5 7 = M3 at *
    generalize seg l 17 19 = M4 at *
    generalize seg l 20 22 = M5 at *
    generalize seg l 23 25 = M6 at *
    generalize Lib.index mon2L M0 = m0 at *
    have hmon : mon2L.length = 47 := rfl
    rw [hmon] at hixc
    obtain ⟨Ps, hPs⟩ : ∃ Ps, Ps = [M3, M2, M4, M5, M6] := ⟨_, rfl⟩
    have hPl : ∀ s ∈ Ps, s.length ≤ 4 := by
      subst hPs
      intro s hs
      simp only [List.mem_cons, List.not_mem_nil, or_false] at hs
      rcases hs with rfl | rfl | rfl | rfl | rfl <;> omega
    have hP5 : Ps.length = 5 := by subst hPs; rfl
    have hP5' : Ps.length ≤ 5 := by omega
    have hrd : ∀ w : World, ReadL encS (w.alloc (.cells #[S M3, S M2, S M4, S M5, S M6] 9)) (w.heap.size + 1) (some ⟨w.heap.size, 0, none⟩) Ps := fun w => ReadL.lit w _ _ Ps (by subst hPs; rfl)
    have hno2 : (∃ s ∈ Ps, s.all (inTab tensTab) = false) → ∀ n, ¬ isDate n l := fun ⟨s, hs, hf⟩ => hno fun k h => by
      have := hg3 k h s (by rw [hsegs]; rw [hPs] at hs; exact hs)
      rw [hf] at this; cases this
    have Hno2 := Lib.hid hno2
    have Hsegs := Lib.hid hsegs
    have HPs := Lib.hid hPs
    have Hg3 := Lib.hid hg3
    have Hno := Lib.hid hno
    have HN := Lib.hid hN
    have Hg1 := Lib.hid hg1
    have Hg2 := Lib.hid hg2
    have HP5 := Lib.hid hP5
    have HPl := Lib.hid hPl
    have Hgood := Lib.hid hgood
    clear hno2 hsegs hPs hg3 hno hN hg1 hg2 hP5 hPl hgood
    go_enter Tryz.func25, Tryz.ntmps25
    go_wp2_with fail
    refine (hix _ hM).mono ?_
    rintro e w1 ⟨rfl, rfl⟩
    go_wp2_with fail
    go_region
    go_wp2_with fail
    go_loopw [31] (fun i' wr => ∃ (k : Nat), i' = .int .i64 k ∧ k ≤ 5 ∧ BoxAt wr w.heap.size 87 ((Ps.take k).map (fun s => Value.int .i64 (av s)) ++ List.replicate (Ps.length - k) (.int .i64 0)) ∧ Hid (∀ s ∈ Ps.take k, s.all (inTab tensTab) = true) ∧ ReadL encS wr (w.heap.size + 2) (some ⟨w.heap.size + 1, 0, none⟩) Ps ∧ Below w.heap.size w wr) (fun i' _ => 5 - (intOf i').toNat)
    case atStart =>
      have hz := hrd (w.alloc (.cells #[.int .i64 0, .int .i64 0, .int .i64 0, .int .i64 0, .int .i64 0] 87))
      rw [size_alloc1] at hz
      have bx0 := ((BoxAt.new w [.int .i64 0, .int .i64 0, .int .i64 0, .int .i64 0, .int .i64 0] 87).alloc (.cells #[S M3, S M2, S M4, S M5, S M6] 9)).drew
      exact ⟨0, rfl, by omega, by rw [HP5.out]; exact bx0, Lib.hid (fun s hs => by simp at hs), hz, (((Below.refl _ _).alloc (Nat.le_refl _) _).alloc (by rw [size_alloc1]; omega) _).drew⟩
    case round =>
      obtain ⟨k, rfl, hk, bx, hdig, hread, hbel⟩ := hrel
      have hbs := hbel.size
      by_cases hlt : k < 5
      · obtain ⟨x, hx, _⟩ := drop_step (l := Ps) (k := k) (by rw [HP5.out]; exact hlt)
        have hxl := HPl.out x (List.mem_of_getElem? hx)
        obtain ⟨g, off, he, hgb, hcell⟩ := hread.at_S hx
        injection he with he
        injection he with he1 he2
        subst he1 he2
        rw [Nat.zero_add] at hcell
        have q0 := bx.cell (j := k) (v := .int .i64 0) (by
          have hlk : ((Ps.take k).map (fun s => Value.int .i64 (av s))).length = k := by rw [List.length_map, List.length_take, HP5.out]; omega
          rw [List.getElem?_append_right (by omega), hlk, List.getElem?_replicate, HP5.out, if_pos (by omega)])
        have qf := bx.free k
        have bx2 := bx.set k (.int .i64 (av x))
        rw [map_set_step (fun s => Value.int .i64 (av s)) (.int .i64 0) Ps k x hx] at bx2
        have hcx := w_count (x.dropWhile z48) (Nat.le_trans (List.dropWhile_sublist z48).length_le (by omega)) 9999 (by omega)
        have hav : cnt (x.dropWhile z48) 9999 = av x := rfl
        rw [hav] at hcx
        have Hx := Lib.hid hx
        clear hx hav
        cases ht : x.all (inTab tensTab)
        · have Hn := Lib.hid (Hno2.out ⟨x, List.mem_of_getElem? Hx.out, ht⟩)
          have hall := fun w => w_allOf x tensTab (by omega) w
          rw [ht] at hall
          go_wp2_with (go_at_call 79; refine (hall _).mono ?_; rintro e w' ⟨rfl, rfl⟩)
          go_ret2
          exact DateOut.no Hn.out hbel
        · have hall := fun w => w_allOf x tensTab (by omega) w
          rw [ht] at hall
          have Hd := Lib.hid (show ∀ s ∈ Ps.take (k + 1), s.all (inTab tensTab) = true from fun s hs => by
            have : Ps.take (k + 1) = Ps.take k ++ [x] := by rw [List.take_add_one, Hx.out]; rfl
            rw [this, List.mem_append, List.mem_singleton] at hs
            rcases hs with hs | rfl
            · exact hdig.out s hs
            · exact ht)
          clear ht
          go_wp2_with (first
            | (go_at_call 79; refine (hall _).mono ?_; rintro e w' ⟨rfl, rfl⟩)
            | (go_at_call 80; refine Calls.mono (w_TrimLeft0 x ?_ _) ?_; omega; rintro e w' ⟨rfl, rfl⟩)
            | (go_at_call 23; refine (hcx _).mono ?_; rintro e w' ⟨rfl, rfl⟩))
          go_roundw
          case rel => exact ⟨k + 1, by go_num, by omega, bx2, Hd, keepAt hread (fun p hp => cell_otherB _ _ _ _ (by rw [hp]; show w.heap.size + 1 ≠ w.heap.size; omega)), hbel.setCell (by show w.heap.size ≤ w.heap.size; omega) _⟩
          case measure => simp [intOf]; omega
      · obtain rfl : k = 5 := by omega
        have bx' : BoxAt wr w.heap.size 87 [.int .i64 (av M3), .int .i64 (av M2), .int .i64 (av M4), .int .i64 (av M5), .int .i64 (av M6)] := by rw [HPs.out] at bx; exact bx
        have q0 := bx'.cell (j := 0) rfl
        have q1 := bx'.cell (j := 1) rfl
        have q2 := bx'.cell (j := 2) rfl
        have q3 := bx'.cell (j := 3) rfl
        have q4 := bx'.cell (j := 4) rfl
        clear bx
        obtain ⟨b20, b21⟩ := b2
        obtain ⟨b30, b31⟩ := b3
        obtain ⟨b40, b41⟩ := b4
        obtain ⟨b50, b51⟩ := b5
        obtain ⟨b60, b61⟩ := b6
        clear hdig hread hrd hlt s1 s2 s3 s4 s5 s6 hix
        generalize av M2 = v2 at *
        generalize av M3 = v3 at *
        generalize av M4 = v4 at *
        generalize av M5 = v5 at *
        generalize av M6 = v6 at *
        obtain ⟨D3, hD3⟩ : ∃ D, max 0 v3 = D := ⟨_, rfl⟩
        obtain ⟨D4, hD4⟩ : ∃ D, max 0 v4 = D := ⟨_, rfl⟩
        obtain ⟨D5, hD5⟩ : ∃ D, max 0 v5 = D := ⟨_, rfl⟩
        obtain ⟨D6, hD6⟩ : ∃ D, max 0 v6 = D := ⟨_, rfl⟩
        have d30 : 0 ≤ D3 := by omega
        have d31 : D3 ≤ 9999 := by omega
        have d40 : 0 ≤ D4 := by omega
        have d41 : D4 ≤ 9999 := by omega
        have d50 : 0 ≤ D5 := by omega
        have d51 : D5 ≤ 9999 := by omega
        have d60 : 0 ≤ D6 := by omega
        have d61 : D6 ≤ 9999 := by omega
        rw [hD3] at Hg2
        rw [hD3, hD4, hD5, hD6] at HN
        rcases hixc with hm | ⟨j, hm, hj⟩
        · subst hm
          have Hn := Lib.hid (Hno.out fun k h => by have := Hg1.out k h; omega)
          rcases hd : daysIn v2 (((0 : Nat) : Int) + 1) D3 with _ | _
          · have hDy : ∀ w, Calls Tryz.prog 81 #[.int .i64 v2, .int .i64 (1), .int .i64 D3] w fun e w' => e = .returned (.tuple #[.int .i64 0, .int .i64 1]) ∧ Below w.heap.size w w' := fun w => by
              have := w_DaysR_out v2 (((0 : Nat) : Int) + 1) D3 hd w
              rw [show (((0 : Nat) : Int) + 1) = 1 from rfl] at this
              exact this
            clear hd
            go_wp2_with fail
            refine (hDy _).mono ?_
            rintro e w5 ⟨rfl, hb5⟩
            have hbel5 := hbel.trans (hb5.mono hbs)
            have bx5 := bx'.keep hb5
            have r2 := bx5.cell (j := 2) rfl
            have r3 := bx5.cell (j := 3) rfl
            have r4 := bx5.cell (j := 4) rfl
            go_wp2_with fail
            go_ret2
            exact DateOut.no Hn.out hbel5
          · rw [daysIn_iff (by omega)] at hd
            obtain ⟨y0, y1, d0, d1⟩ := hd
            obtain ⟨D, hD⟩ : ∃ D, yd v2 + cum v2 0 + D3 - 1 = D := ⟨_, rfl⟩
            have hDb := dayN_bd y0 y1 (show 0 < 12 by omega) d0 d1
            unfold dayN at hDb
            rw [hD] at hDb
            obtain ⟨hD0, hD1⟩ := hDb
            have hDy : ∀ w, Calls Tryz.prog 81 #[.int .i64 v2, .int .i64 (1), .int .i64 D3] w fun e w' => e = .returned (.tuple #[.int .i64 D, .int .i64 0]) ∧ Below w.heap.size w w' := fun w => by
              have := w_DaysR_in v2 D3 0 (by omega) y0 y1 d0 d1 w
              rw [show (((0 : Nat) : Int) + 1) = 1 from rfl] at this
              rw [show yd v2 + cum v2 _ + D3 - 1 = D from hD] at this
              exact this
            clear hD y0 y1 d0 d1
            go_wp2_with fail
            refine (hDy _).mono ?_
            rintro e w5 ⟨rfl, hb5⟩
            have hbel5 := hbel.trans (hb5.mono hbs)
            have bx5 := bx'.keep hb5
            have r2 := bx5.cell (j := 2) rfl
            have r3 := bx5.cell (j := 3) rfl
            have r4 := bx5.cell (j := 4) rfl
            go_wp2_with fail
            go_ret2
            exact DateOut.no Hn.out hbel5
        · subst hm
          have hj33 : j ≤ 44 := by omega
          have e1 : (j : Int).tdiv 4 = (j : Int) / 4 := Int.tdiv_eq_ediv_of_nonneg (by omega)
          have e2 : IntKind.i64.wrap ((j : Int) / 4) = (j : Int) / 4 := IntWalk.i64_in _ ⟨by omega, by omega⟩
          have e3 : IntKind.i64.wrap ((j : Int) / 4 + 1) = (j : Int) / 4 + 1 := IntWalk.i64_in _ ⟨by omega, by omega⟩
          rcases hd : daysIn v2 ((((j / 4) : Nat) : Int) + 1) D3 with _ | _
          · have Hn := Lib.hid (Hno.out fun k h => by have h1 := Hg1.out k h; have h2 := Hg2.out k h; rw [show k = j / 4 from by omega, hd] at h2; cases h2)
            have hDy : ∀ w, Calls Tryz.prog 81 #[.int .i64 v2, .int .i64 ((j : Int) / 4 + 1), .int .i64 D3] w fun e w' => e = .returned (.tuple #[.int .i64 0, .int .i64 1]) ∧ Below w.heap.size w w' := fun w => by
              have := w_DaysR_out v2 ((((j / 4) : Nat) : Int) + 1) D3 hd w
              rw [show ((((j / 4) : Nat) : Int) + 1) = (j : Int) / 4 + 1 from by omega] at this
              exact this
            clear hd
            go_wp2_with fail
            refine (hDy _).mono ?_
            rintro e w5 ⟨rfl, hb5⟩
            have hbel5 := hbel.trans (hb5.mono hbs)
            have bx5 := bx'.keep hb5
            have r2 := bx5.cell (j := 2) rfl
            have r3 := bx5.cell (j := 3) rfl
            have r4 := bx5.cell (j := 4) rfl
            go_wp2_with fail
            go_ret2
            exact DateOut.no Hn.out hbel5
          · rw [daysIn_iff (by omega)] at hd
            obtain ⟨y0, y1, d0, d1⟩ := hd
            obtain ⟨D, hD⟩ : ∃ D, yd v2 + cum v2 (j / 4) + D3 - 1 = D := ⟨_, rfl⟩
            have hDb := dayN_bd y0 y1 (show (j / 4) < 12 by omega) d0 d1
            unfold dayN at hDb
            rw [hD] at hDb
            obtain ⟨hD0, hD1⟩ := hDb
            have hDy : ∀ w, Calls Tryz.prog 81 #[.int .i64 v2, .int .i64 ((j : Int) / 4 + 1), .int .i64 D3] w fun e w' => e = .returned (.tuple #[.int .i64 D, .int .i64 0]) ∧ Below w.heap.size w w' := fun w => by
              have := w_DaysR_in v2 D3 (j / 4) (by omega) y0 y1 d0 d1 w
              rw [show ((((j / 4) : Nat) : Int) + 1) = (j : Int) / 4 + 1 from by omega] at this
              rw [show yd v2 + cum v2 _ + D3 - 1 = D from hD] at this
              exact this
            have Hw := Lib.hid (fun n (hn : isDate n l) => (by
              obtain ⟨k, hk, hkn⟩ := Hgood.out n hn
              have := Hg1.out k hk
              have : k = j / 4 := by omega
              subst this
              exact hkn : rN l (j / 4) = n))
            have hNd : rN l (j / 4) = 86400 * D + 3600 * D4 + 60 * D5 + D6 := by rw [HN.out]; unfold dayN; rw [hD]; omega
            rw [hNd] at Hw
            clear hNd hD y0 y1 d0 d1
            obtain ⟨N, hNN⟩ : ∃ N, 86400 * D + 3600 * D4 + 60 * D5 + D6 = N := ⟨_, rfl⟩
            rw [hNN] at Hw
            have hN0 : 0 ≤ N := by omega
            by_cases hNm : N ≤ 253402300799
            · obtain ⟨y, m, r, hc⟩ := civil_exists (N / 86400).toNat
              rw [show (((N / 86400).toNat : Nat) : Int) = N / 86400 from by omega] at hc
              have hpr := fun w => w_DatePrint N y r m hc hN0 hNm w
              have hiff := isDate_at (l := l) hc hN0 hNm
              obtain ⟨T, hT⟩ : ∃ T, dateL N y m r = T := ⟨_, rfl⟩
              rw [hT] at hpr
              rw [hT] at hiff
              clear hc hT
              by_cases hTl : T = l
              · have Hd := Lib.hid (hiff.2 hTl)
                clear hiff
                subst hTl
                go_wp2_with fail
                refine (hDy _).mono ?_
                rintro e w5 ⟨rfl, hb5⟩
                have hbel5 := hbel.trans (hb5.mono hbs)
                have bx5 := bx'.keep hb5
                have r2 := bx5.cell (j := 2) rfl
                have r3 := bx5.cell (j := 3) rfl
                have r4 := bx5.cell (j := 4) rfl
                go_wp2_with fail
                refine (hpr _).mono ?_
                rintro e w6 ⟨rfl, hb6⟩
                go_wp2_with fail
                go_ret2
                exact DateOut.yes Hd.out (hbel5.trans (hb6.mono hbel5.size))
              · have Hn := Lib.hid (fun n (hn : isDate n l) => (by have := Hw.out n hn; rw [← this] at hn; exact hTl (hiff.1 hn) : False))
                have hTb : (T == l) = false := by simpa using hTl
                clear hiff hTl
                go_wp2_with fail
                refine (hDy _).mono ?_
                rintro e w5 ⟨rfl, hb5⟩
                have hbel5 := hbel.trans (hb5.mono hbs)
                have bx5 := bx'.keep hb5
                have r2 := bx5.cell (j := 2) rfl
                have r3 := bx5.cell (j := 3) rfl
                have r4 := bx5.cell (j := 4) rfl
                go_wp2_with fail
                refine (hpr _).mono ?_
                rintro e w6 ⟨rfl, hb6⟩
                go_wp2_with fail
                go_ret2
                exact DateOut.no Hn.out (hbel5.trans (hb6.mono hbel5.size))
            · have Hn := Lib.hid (fun n (hn : isDate n l) => (by have := Hw.out n hn; obtain ⟨_, _, _, _, _, h8, _⟩ := hn; omega : False))
              have hpr := fun w => w_DatePrint_out N (.inr (by omega)) w
              go_wp2_with fail
              refine (hDy _).mono ?_
              rintro e w5 ⟨rfl, hb5⟩
              have hbel5 := hbel.trans (hb5.mono hbs)
              have bx5 := bx'.keep hb5
              have r2 := bx5.cell (j := 2) rfl
              have r3 := bx5.cell (j := 3) rfl
              have r4 := bx5.cell (j := 4) rfl
              go_wp2_with fail
              refine (hpr _).mono ?_
              rintro e w6 ⟨rfl, rfl⟩
              go_wp2_with fail
              go_ret2
              exact DateOut.no Hn.out hbel5

  · have hno : ∀ n, ¬ isDate n l := fun n h => by obtain ⟨k, hk, _⟩ := hgood n h; exact hlen hk.len
    have hI2 : (((l.length : Nat) : Int) == 29) = false := by simp; omega
    have Hno := Lib.hid hno
    clear hno hgood
    go_enter Tryz.func25, Tryz.ntmps25
    go_wp2_with fail
    go_ret2
    exact DateOut.no Hno.out (Below.refl _ _)
end Go.Proofs.YtemjoiaapfhenaaGreatDoor
end

/- WDtE -/
section
namespace Go.Larder
open Go.RowKit
theorem same_date {n n' : Int} {l : List UInt8} (h : isDate n l) (h' : isDate n' l) : n = n' := by
  obtain ⟨k, hk, e⟩ := isDate_good h
  obtain ⟨k', hk', e'⟩ := isDate_good h'
  have h1 := hk.mon
  have h2 := hk'.mon
  have : k = k' := by omega
  subst this
  rw [← e, ← e']
open Classical in
noncomputable def dtE (l : List UInt8) : Int × Bool := if h : ∃ n, isDate n l then (Classical.choose h, true) else (0, false)
theorem dtE_yes {n : Int} {l : List UInt8} (h : isDate n l) : dtE l = (n, true) := by
  unfold dtE
  have hex : ∃ n, isDate n l := ⟨n, h⟩
  rw [dif_pos hex, same_date (Classical.choose_spec hex) h]
theorem dtE_no {l : List UInt8} (h : ∀ n, ¬ isDate n l) : dtE l = (0, false) := by
  unfold dtE
  rw [dif_neg (fun ⟨n, hn⟩ => h n hn)]
theorem dtE_bd (l : List UInt8) : 0 ≤ (dtE l).1 ∧ (dtE l).1 ≤ 253402300799 := by
  by_cases h : ∃ n, isDate n l
  · obtain ⟨n, hn⟩ := h
    rw [dtE_yes hn]
    obtain ⟨_, _, _, _, h0, h1, _⟩ := hn
    exact ⟨h0, h1⟩
  · rw [dtE_no (fun n hn => h ⟨n, hn⟩)]
    exact ⟨by decide, by decide⟩
def errI (b : Bool) : Int := if b then 0 else 3
/-- a field's date -/
noncomputable def toldE (nm : List UInt8) (l : List Fld) : Int × Bool := ((dtE (Lib.join (valsL (lowL nm) l) sepL)).1, !(valsL (lowL nm) l).isEmpty && (dtE (Lib.join (valsL (lowL nm) l) sepL)).2)
theorem toldE_bd (nm : List UInt8) (l : List Fld) : 0 ≤ (toldE nm l).1 ∧ (toldE nm l).1 ≤ 253402300799 := dtE_bd _
end Go.Larder
namespace Go.Proofs.YtemjoiaapfhenaaGreatDoor
open Go.RowKit Go.Larder
set_option linter.unusedVariables false
set_option linter.unusedSimpArgs false
theorem dout {w w' : World} {l : List UInt8} {e : Ending} (h : DateOut w l e w') : e = .returned (.tuple #[.int .i64 (dtE l).1, .int .i64 (errI (dtE l).2)]) ∧ Below w.heap.size w w' := by
  obtain ⟨h1, h2⟩ := h
  refine ⟨?_, h2⟩
  rcases h1 with ⟨n, rfl, hn⟩ | ⟨rfl, hn⟩
  · rw [dtE_yes hn]; rfl
  · rw [dtE_no hn]; rfl
theorem w_date (l : List UInt8) (hl : l.length ≤ 140737488351232) (w : World) (hP : PW w) (hM : ML w) :
    Calls Tryz.prog 51 #[S l] w fun e w' => e = .returned (.tuple #[.int .i64 (dtE l).1, .int .i64 (errI (dtE l).2)]) ∧ Below w.heap.size w w' := (w_DParse l hl w hP hM).mono fun _ _ h => dout h
theorem w_dateR (l : List UInt8) (hl : l.length ≤ 140737488351232) (w : World) (hM : ML w) :
    Calls Tryz.prog 25 #[S l] w fun e w' => e = .returned (.tuple #[.int .i64 (dtE l).1, .int .i64 (errI (dtE l).2)]) ∧ Below w.heap.size w w' := (w_DParseR l hl w hM).mono fun _ _ h => dout h
end Go.Proofs.YtemjoiaapfhenaaGreatDoor
end
