/- Walks: ranges, printed: the program's, the reference's. -/
import Derived.Test.YtbcodkbabhegkaaDoorWSpan0
import Derived.Test.YtbcodkbabhegkaaDoorWItoa
import Derived.Test.YtbcodkbabhegkaaDoorWJoin
import Derived.Test.YtbcodkbabhegkaaDoorSpecSpp
import Derived.Test.YtbcodkbabhegkaaDoorBoxAt
import Derived.Test.YtbcodkbabhegkaaDoorApp
import Derived.Deep.RegionWith
namespace Go.Proofs.YtbcodkbabhegkaaDoor
open Go.RowKit Go.Larder
set_option linter.unusedVariables false
set_option linter.unusedSimpArgs false

theorem sl_strS : SlT Tryd.prog 63 9 1 16 := SlT.mk' (z := .string ByteArray.empty) Tryd.underlying63 (by kernel_rfl) rfl
theorem map_snoc {α β : Type} {f : α → β} {l : List α} {k : Nat} {x : α} (h : l[k]? = some x) : (l.take (k + 1)).map f = (l.take k).map f ++ [f x] := by
  rw [List.take_add_one, h]; simp

set_option maxHeartbeats 4000000 in
theorem w_SPrint (l : List (Int × Int)) (hl : l.length ≤ 140737488351232) (A : Option Addr) (c : Nat) (w : World) (hr : ReadL encII w w.heap.size A l) (hP : PW w) :
    Calls Tryd.prog 17 #[.slice A l.length c] w (StPost w (spE l)) := by
  have hch := w_check l hl A c w hr
  obtain ⟨R, hR⟩ : ∃ R, spE l = R := ⟨_, rfl⟩
  rw [hR]
  unfold spE at hR
  have HR := Lib.hid hR
  clear hR
  cases hz : (checkP l == 0)
  · have hz1 : ¬ checkP l = 0 := by simpa using hz
    have hne : checkP l = 1 := by unfold checkP at hz1 ⊢; split at hz1 <;> simp_all
    have hcr : checkR l = 1 := by unfold checkP at hne; unfold checkR; split at hne <;> simp_all
    have Hq := Lib.hid (show R = .error 1 from by rw [← HR.out, hcr, if_neg (by decide)])
    rw [hne] at hch
    clear hz hz1 hne hcr HR
    go_enter Tryd.func17, Tryd.ntmps17
    go_wp2_with (go_at_call 47; refine hch.mono ?_; rintro e w1 ⟨rfl, hb1⟩)
    go_ret2
    rw [Hq.out]
    exact ⟨rfl, hb1⟩
  · have hz1 : checkP l = 0 := by simpa using hz
    rw [hz1] at hch
    by_cases hbig : 20 < l.length
    · have hcr : checkR l = 2 := by
        unfold checkP at hz1; unfold checkR
        split at hz1
        · omega
        · next h => rw [if_neg h, if_pos hbig]
      have Hq := Lib.hid (show R = .error 2 from by rw [← HR.out, hcr, if_neg (by decide)])
      clear hz hz1 hcr HR
      go_enter Tryd.func17, Tryd.ntmps17
      go_wp2_with (go_at_call 47; refine hch.mono ?_; rintro e w1 ⟨rfl, hb1⟩)
      go_ret2
      rw [Hq.out]
      exact ⟨rfl, hb1⟩
    · have hcr : checkR l = 0 := by
        unfold checkP at hz1; unfold checkR
        split at hz1
        · omega
        · next h => rw [if_neg h, if_neg hbig]
      have hall := (checkR_zero hcr).2.2
      have Hq := Lib.hid (show R = .ok (spL l) from by rw [← HR.out, hcr, if_pos rfl])
      clear hz hz1 hcr HR
      go_enter Tryd.func17, Tryd.ntmps17
      go_wp2_with (go_at_call 47; refine hch.mono ?_; rintro e w1 ⟨rfl, hb1⟩)
      go_loopw [5, 20] (fun o i' wr => ∃ (k : Nat) (out : List (List UInt8)) (A2 : Option Addr) (c2 : Nat), i' = .int .i64 k ∧ o = .slice A2 out.length c2 ∧ k ≤ l.length ∧ out.length ≤ k ∧ OwnL encS wr w.heap.size 9 A2 c2 out ∧ Below w.heap.size w wr ∧ Hid (out = (l.take k).map wantS)) (fun _ i' _ => l.length - (intOf i').toNat)
      case atStart => exact ⟨0, [], none, 0, rfl, rfl, by omega, by simp, OwnL.nil _ _ _, hb1, Lib.hid rfl⟩
      case round =>
        obtain ⟨k, out, A2, c2, rfl, rfl, hk, hok, hown, hbel, Ho⟩ := hrel
        have hbs := hbel.size
        have hPr := hP.keep hbel
        by_cases hlt : k < l.length
        · obtain ⟨⟨a, b⟩, hx, _⟩ := drop_step hlt
          obtain ⟨ha1, ha2, hb1', hb2', hab⟩ := want_bd (hall _ (List.mem_of_getElem? hx))
          obtain ⟨g, off, rfl, hgb, hc0, hc1⟩ := (hr.below hbel (Nat.le_refl _)).at_II hx
          have hsn := map_snoc (f := wantS) hx
          have Hsn := Lib.hid hsn
          simp only at hc0 hc1
          clear hsn hx
          have hbA : Below wr.heap.size wr (wr.alloc (.cells #[.int .i64 a, .int .i64 b] 77)) := (Below.refl _ _).alloc (Nat.le_refl _) _
          have hPa : PW (wr.alloc (.cells #[.int .i64 a, .int .i64 b] 77)) := hPr.keep hbA
          have bxa := BoxAt.new wr [.int .i64 a, .int .i64 b] 77
          go_wp2_with fail
          go_region_with (go_at_call 39; first
            | (refine Calls.mono (w_Itoa _ ?_ _ ?_) ?_; omega; exact hPa; rintro e w2 ⟨rfl, hb2⟩; have hP2 := hPa.drew.keep hb2; have bx2 := bxa.drew.keep hb2; have q0 := bx2.cell (j := 0) rfl; have q1 := bx2.cell (j := 1) rfl)
            | (refine Calls.mono (w_Itoa _ ?_ _ ?_) ?_; omega; exact hP2; rintro e w3 ⟨rfl, hb3⟩; have bx3 := bx2.keep hb3; have r0 := bx3.cell (j := 0) rfl; have r1 := bx3.cell (j := 1) rfl))
          all_goals
            have hB2 := (hbel.alloc hbs (.cells #[.int .i64 a, .int .i64 b] 77)).drew.trans (hb2.mono (by show w.heap.size ≤ (wr.alloc _).heap.size; simp; omega))
            have hB3 := hB2.trans (hb3.mono hB2.size)
            have hown3 := (((hown.alloc (.cells #[.int .i64 a, .int .i64 b] 77)).drew).below hb2 (Nat.le_refl _)).below hb3 (Nat.le_refl _)
            have hla := Lib.itoa_length_le a (by omega) (by omega)
            have hlb := Lib.itoa_length_le b (by omega) (by omega)
            by_cases ha : a < 0
            · have hb0 : 0 ≤ b := hab ha
              have Eb := Lib.hid (itoa_nn hb0)
              go_wp2_with (at_builtin; refine wpList_app encS sl_strS [_] rfl _ _ rfl rfl hown3 #[S _] rfl 0 rfl (by first | rfl | (simp [go_sem]; done)) (by omega) (by simp only [maxLen]; omega) hB3.size ?_; intro g' c'' w5 hown5 hg5 hb5 hbg)
              go_roundw
              case rel => exact ⟨k + 1, _, _, _, by go_num, by simp, by omega, by simp; omega, hown5, hB3.trans hb5, Lib.hid (by rw [Hsn.out, ← Ho.out]; simp [wantS, sgnL, ha, show ¬ b < 0 from by omega, Eb.out])⟩
              case measure => simp [intOf]; omega
            · have Ea := Lib.hid (itoa_nn (n := a) (by omega))
              by_cases hb0 : b < 0
              · go_wp2_with (at_builtin; refine wpList_app encS sl_strS [_] rfl _ _ rfl rfl hown3 #[S _] rfl 0 rfl (by first | rfl | (simp [go_sem]; done)) (by omega) (by simp only [maxLen]; omega) hB3.size ?_; intro g' c'' w5 hown5 hg5 hb5 hbg)
                go_roundw
                case rel => exact ⟨k + 1, _, _, _, by go_num, by simp, by omega, by simp; omega, hown5, hB3.trans hb5, Lib.hid (by rw [Hsn.out, ← Ho.out]; simp [wantS, sgnL, ha, hb0, Ea.out])⟩
                case measure => simp [intOf]; omega
              · have Eb := Lib.hid (itoa_nn (n := b) (by omega))
                go_wp2_with (at_builtin; refine wpList_app encS sl_strS [_] rfl _ _ rfl rfl hown3 #[S _] rfl 0 rfl (by first | rfl | (simp [go_sem]; done)) (by omega) (by simp only [maxLen]; omega) hB3.size ?_; intro g' c'' w5 hown5 hg5 hb5 hbg)
                go_roundw
                case rel => exact ⟨k + 1, _, _, _, by go_num, by simp, by omega, by simp; omega, hown5, hB3.trans hb5, Lib.hid (by rw [Hsn.out, ← Ho.out]; simp [wantS, sgnL, ha, hb0, Ea.out, Eb.out])⟩
                case measure => simp [intOf]; omega
        · obtain rfl : k = l.length := by omega
          have ho := Ho.out
          rw [List.take_length] at ho
          have hjl : (Lib.join out [44]).length ≤ 20 * 44 := by
            have := join_lenG [44] 43 out (fun v hv => by
              rw [ho] at hv
              obtain ⟨f, hf, rfl⟩ := List.mem_map.1 hv
              obtain ⟨h1, h2, h3, h4, _⟩ := want_bd (a := f.1) (b := f.2) (hall f hf)
              exact wantS_len h2 h4)
            simp only [List.length_cons, List.length_nil] at this
            omega
          have Hq2 := Lib.hid (show R = .ok (bytesEq ++ Lib.join out [44]) from by rw [Hq.out, ho]; rfl)
          clear ho
          have hrd := hown.read
          have hcap := hown.le_cap
          go_wp2_with (go_at_call 48; refine (w_Join out [44] A2 c2 _ _ hrd (Nat.le_refl _) hcap (by omega) (by omega)).mono ?_; rintro e w2 ⟨rfl, hb2⟩)
          go_ret2
          rw [Hq2.out]
          exact ⟨by simp [bytesEq], hbel.trans (hb2.mono hbs)⟩

set_option maxHeartbeats 1000000 in
theorem w_signed (n : Int) (h : -1 ≤ n ∧ n ≤ 99999) (w : World) :
    Calls Tryd.prog 50 #[.int .i64 n] w fun e w' => e = .returned (S (sgnL n)) ∧ Below w.heap.size w w' := by
  obtain ⟨h0, h1⟩ := h
  by_cases hn : n < 0
  · rw [show sgnL n = [] from if_pos hn]
    go_enter Tryd.func50, Tryd.ntmps50
    go_wp2_with fail
    go_ret
    exact ⟨rfl, Below.refl _ _⟩
  · rw [show sgnL n = Lib.decDigits n.toNat from if_neg hn]
    go_enter Tryd.func50, Tryd.ntmps50
    go_wp2_with (go_at_call 86; refine (w_Dig n (by omega) (by omega) _).mono ?_; rintro e w1 ⟨rfl, hb1⟩)
    go_ret
    exact ⟨rfl, hb1⟩

set_option maxHeartbeats 4000000 in
set_option maxRecDepth 100000 in
theorem w_SPrintR (l : List (Int × Int)) (hl : l.length ≤ 140737488351232) (A : Option Addr) (c : Nat) (w : World) (hr : ReadL encII w w.heap.size A l) :
    Calls Tryd.prog 18 #[.slice A l.length c] w (StPost w (spE l)) := by
  have hch := w_checkR l hl A c w hr
  unfold spE
  cases hz : (checkR l == 0)
  · have hz1 : ¬ checkR l = 0 := by simpa using hz
    rw [if_neg hz1]
    generalize checkR l = n at hch hz
    clear hz1
    go_enter Tryd.func18, Tryd.ntmps18
    go_wp2_with (go_at_call 49; refine hch.mono ?_; rintro e w1 ⟨rfl, hb1⟩)
    go_ret2
    exact ⟨rfl, hb1⟩
  · have hz1 : checkR l = 0 := by simpa using hz
    rw [if_pos hz1]
    rw [hz1] at hch
    obtain ⟨_, hl20, hall⟩ := checkR_zero hz1
    clear hz hz1
    go_enter Tryd.func18, Tryd.ntmps18
    go_wp2_with (go_at_call 49; refine hch.mono ?_; rintro e w1 ⟨rfl, hb1⟩)
    go_loopw [5, 15] (fun o i' wr => ∃ (k : Nat) (acc : List UInt8), i' = .int .i64 k ∧ o = S acc ∧ k ≤ l.length ∧ acc.length ≤ 6 + 44 * k ∧ Below w.heap.size w wr ∧ Hid (acc = bytesEq ++ Lib.join ((l.take k).map wantS) [44])) (fun _ i' _ => l.length - (intOf i').toNat)
    case atStart => exact ⟨0, bytesEq, rfl, rfl, by omega, by simp [bytesEq], hb1, Lib.hid (by simp [Lib.join_nil])⟩
    case round =>
      obtain ⟨k, acc, rfl, rfl, hk, hal, hbel, Ho⟩ := hrel
      have hbs := hbel.size
      by_cases hlt : k < l.length
      · obtain ⟨⟨a, b⟩, hx, _⟩ := drop_step hlt
        have hw := hall _ (List.mem_of_getElem? hx)
        obtain ⟨ha1, ha2, hb1', hb2', hab⟩ := want_bd hw
        obtain ⟨g, off, rfl, hgb, hc0, hc1⟩ := (hr.below hbel (Nat.le_refl _)).at_II hx
        have hsn := map_snoc (f := wantS) hx
        simp only at hc0 hc1
        have hbxa := BoxAt.new wr [.int .i64 a, .int .i64 b] 77
        have hsa := w_signed a (by omega)
        have hsb := w_signed b (by omega)
        have hla := sgn_len ha2
        have hlb := sgn_len hb2'
        have hws : wantS (a, b) = sgnL a ++ [45] ++ sgnL b := rfl
        rw [hws] at hsn
        generalize sgnL a = sa at hsa hla hsn
        generalize sgnL b = sb at hsb hlb hsn
        clear hws hx hw
        rcases Nat.eq_zero_or_pos k with hk0 | hk0
        · have hkn : ¬ (0 : Int) < (k : Int) := by omega
          have ho := Ho.out
          rw [hk0] at ho hsn
          simp only [List.take_zero, List.map_nil, Lib.join_nil, List.append_nil] at ho
          have Hn := Lib.hid (show acc ++ (sa ++ [45] ++ sb) = bytesEq ++ Lib.join ((l.take (k + 1)).map wantS) [44] from by rw [hk0, hsn, ho]; simp [Lib.join_one])
          clear hsn ho hk0
          go_wp2_with fail
          go_region_with (go_at_call 50; first
            | (refine Calls.mono (hsa _) ?_; rintro e w2 ⟨rfl, hb2⟩; have bx2 := hbxa.drew.keep hb2; have q0 := bx2.cell (j := 0) rfl; have q1 := bx2.cell (j := 1) rfl)
            | (refine Calls.mono (hsb _) ?_; rintro e w3 ⟨rfl, hb3⟩; have bx3 := bx2.keep hb3; have r0 := bx3.cell (j := 0) rfl; have r1 := bx3.cell (j := 1) rfl))
          all_goals
            have hB2 := (hbel.alloc hbs (.cells #[.int .i64 a, .int .i64 b] 77)).drew.trans (hb2.mono (by show w.heap.size ≤ (wr.alloc _).heap.size; simp; omega))
            have hB3 := hB2.trans (hb3.mono hB2.size)
            go_wp2_with fail
            go_roundw
            case rel => exact ⟨k + 1, _, by go_num, rfl, by omega, by simp; omega, hB3, Lib.hid (by rw [← Hn.out]; simp)⟩
            case measure => simp [intOf]; omega
        · have hkI : (0 : Int) < k := by omega
          have hne : ((l.take k).map wantS).isEmpty = false := by
            cases h : (l.take k).map wantS with
            | nil => have := congrArg List.length h; simp only [List.length_map, List.length_take, List.length_nil] at this; omega
            | cons x y => rfl
          have Hn := Lib.hid (show acc ++ [44] ++ (sa ++ [45] ++ sb) = bytesEq ++ Lib.join ((l.take (k + 1)).map wantS) [44] from by
            rw [hsn, join_snocG, hne, Ho.out]; simp)
          clear hsn hne
          go_wp2_with fail
          go_region_with (go_at_call 50; first
            | (refine Calls.mono (hsa _) ?_; rintro e w2 ⟨rfl, hb2⟩; have bx2 := hbxa.drew.keep hb2; have q0 := bx2.cell (j := 0) rfl; have q1 := bx2.cell (j := 1) rfl)
            | (refine Calls.mono (hsb _) ?_; rintro e w3 ⟨rfl, hb3⟩; have bx3 := bx2.keep hb3; have r0 := bx3.cell (j := 0) rfl; have r1 := bx3.cell (j := 1) rfl))
          all_goals
            have hB2 := (hbel.alloc hbs (.cells #[.int .i64 a, .int .i64 b] 77)).drew.trans (hb2.mono (by show w.heap.size ≤ (wr.alloc _).heap.size; simp; omega))
            have hB3 := hB2.trans (hb3.mono hB2.size)
            go_wp2_with fail
            go_roundw
            case rel => exact ⟨k + 1, _, by go_num, rfl, by omega, by simp; omega, hB3, Lib.hid (by rw [← Hn.out]; simp)⟩
            case measure => simp [intOf]; omega
      · obtain rfl : k = l.length := by omega
        have Hn := Lib.hid (show spL l = acc from by rw [Ho.out, List.take_length]; rfl)
        go_wp2_with fail
        go_ret2
        rw [Hn.out]
        exact ⟨rfl, hbel⟩
end Go.Proofs.YtbcodkbabhegkaaDoor
