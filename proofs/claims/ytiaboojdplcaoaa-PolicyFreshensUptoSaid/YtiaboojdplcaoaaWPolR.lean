/- Walks: the reference's Strip, Invalidates. -/
import Derived.Test.YtiaboojdplcaoaaWPol
import Derived.Test.YtiaboojdplcaoaaWRef0
namespace Go.Proofs.Ytiaboojdplcaoaa
open Go.RowKit Go.Larder
set_option linter.unusedVariables false
set_option linter.unusedSimpArgs false

theorem w_HasS (x : List UInt8) (l : List (List UInt8)) (hl : l.length ≤ 140737488351232) (A : Option Addr) (c B : Nat) (w : World) (hr : ReadL encS w B A l) :
    Calls Try.prog 79 #[.slice A l.length c, S x] w (fun e w' => e = .returned (.bool (l.any fun y => x == y)) ∧ w = w') := by
  go_enter Try.func79, Try.ntmps79
  go_wp2_with fail
  go_loop [9] (fun i' => ∃ k : Nat, i' = .int .i64 k ∧ k ≤ l.length ∧ ((l.drop k).any fun y => x == y) = (l.any fun y => x == y)) (fun i' => l.length - (intOf i').toNat)
  case atStart => exact ⟨0, rfl, by omega, rfl⟩
  case round =>
    obtain ⟨k, rfl, hk, heq⟩ := hrel
    by_cases hlt : k < l.length
    · obtain ⟨y, hy, hs⟩ := drop_step hlt
      obtain ⟨g, off, rfl, hgb, hc0⟩ := hr.at_S hy
      rw [hs, List.any_cons] at heq
      clear hs hy
      cases hw : (x == y)
      · rw [hw] at heq
        have Heq := Lib.hid heq; clear heq
        go_wp2_with fail
        go_round
        case rel => exact ⟨k + 1, by go_num, by omega, by rw [← Heq.out]; simp⟩
        case measure => simp [intOf]; omega
      · rw [hw] at heq
        have Heq := Lib.hid heq; clear heq
        go_wp2_with fail
        go_ret
        exact ⟨by rw [← Heq.out]; rfl, rfl⟩
    · rw [drop_end hlt] at heq
      have Heq := Lib.hid heq; clear heq
      go_wp2_with fail
      go_ret
      exact ⟨by rw [← Heq.out]; rfl, rfl⟩

set_option maxHeartbeats 2000000 in
theorem w_WithoutN (ns : List (List UInt8)) (hns : ns.length ≤ 140737488351232) (l : List Fld) (hx : ∀ f ∈ l, f.1.length ≤ 140737488351232 ∧ f.2.length ≤ 140737488351232) (hl : l.length * 32 ≤ 140737488351232) (A A' : Option Addr) (c c' : Nat) (w : World) (hr : ReadL encF w w.heap.size A l) (hr' : ReadL encS w w.heap.size A' ns) :
    Calls Try.prog 77 #[.slice A l.length c, .slice A' ns.length c'] w (fun e w' => (∃ A2 c2, e = .returned (.slice A2 (dropP (hitsN ns) l).length c2) ∧ OwnL encF w' w.heap.size 47 A2 c2 (dropP (hitsN ns) l)) ∧ Below w.heap.size w w') := by
  go_enter Try.func77, Try.ntmps77
  go_wp2_with fail
  go_loopw [5, 10] (fun o i' wr => ∃ (k : Nat) (acc : List Fld) (A2 : Option Addr) (c2 : Nat), i' = .int .i64 k ∧ o = .slice A2 acc.length c2 ∧ k ≤ l.length ∧ acc.length ≤ k ∧ OwnL encF wr w.heap.size 47 A2 c2 acc ∧ Below w.heap.size w wr ∧
      acc ++ dropP (hitsN ns) (l.drop k) = dropP (hitsN ns) l) (fun _ i' _ => l.length - (intOf i').toNat)
  case atStart => exact ⟨0, [], none, 0, rfl, rfl, by omega, by simp, OwnL.nil _ _ _, Below.refl _ _, by simp⟩
  case round =>
    obtain ⟨k, acc, A2, c2, rfl, rfl, hk, hacc, hown, hbel, heq⟩ := hrel
    have hbs := hbel.size
    by_cases hlt : k < l.length
    · obtain ⟨⟨n, y⟩, hfx, hs⟩ := drop_step hlt
      have hxl := (hx _ (List.mem_of_getElem? hfx)).1
      obtain ⟨g, off, rfl, hgb, hc0, hc1⟩ := (hr.below hbel (Nat.le_refl _)).at_F hfx
      have hrn : ReadL encS (wr.alloc (.cells #[S n, S y] 47)) wr.heap.size A' ns := ((hr'.below hbel (Nat.le_refl _)).more hbs).alloc (Nat.le_refl _) _
      rw [hs, dropP, List.filter_cons] at heq
      have hh : hitsN ns (n, y) = (ns.any fun z => lowL n == z) := rfl
      rw [hh] at heq
      clear hs hfx hh
      cases hw : (ns.any fun z => lowL n == z)
      · rw [hw, if_pos (by simp)] at heq
        have Heq := Lib.hid heq; clear heq
        go_wp2_with (first
          | (go_at_call 15; refine (w_LowerR n hxl _).mono ?_; rintro e w' ⟨rfl, rfl⟩)
          | (go_at_call 79; refine (w_HasS (lowL n) ns hns A' c' _ _ hrn).mono ?_; rintro e w' ⟨rfl, rfl⟩)
          | (at_builtin
             refine wpList_app encF sl_field [(n, y)] rfl _ _ rfl rfl (hown.alloc _) #[S n, S y] rfl 0 rfl (by first | rfl | (simp [go_sem]; done)) (by omega) (by simp only [maxLen]; omega) (by simp; omega) ?_
             intro g' c'' w3 hown3 hg3 hb3 hbg))
        go_roundw
        case rel => exact ⟨k + 1, acc ++ [(n, y)], _, c'', by go_num, by simp, by omega, by simp; omega, hown3, (hbel.alloc hbs _).trans hb3, by rw [← Heq.out]; simp [dropP]⟩
        case measure => simp [intOf]; omega
      · rw [hw, if_neg (by simp)] at heq
        have Heq := Lib.hid heq; clear heq
        go_wp2_with (first
          | (go_at_call 15; refine (w_LowerR n hxl _).mono ?_; rintro e w' ⟨rfl, rfl⟩)
          | (go_at_call 79; refine (w_HasS (lowL n) ns hns A' c' _ _ hrn).mono ?_; rintro e w' ⟨rfl, rfl⟩))
        go_roundw
        case rel => exact ⟨k + 1, acc, _, c2, by go_num, rfl, by omega, by omega, hown.alloc _, hbel.alloc hbs _, Heq.out⟩
        case measure => simp [intOf]; omega
    · rw [drop_end hlt] at heq
      have hacc2 : dropP (hitsN ns) l = acc := by rw [← heq]; simp [dropP]
      clear heq
      go_wp2_with fail
      go_ret
      exact ⟨⟨A2, c2, by rw [hacc2]; rfl, by rw [hacc2]; exact hown⟩, hbel⟩

set_option maxHeartbeats 2000000 in
theorem w_StripR (l : List Fld) (hsum : (l.map (fun f => f.1.length + f.2.length + 3)).sum ≤ 1048576) (A : Option Addr) (c : Nat) (w : World) (hr : ReadL encF w w.heap.size A l) :
    Calls Try.prog 33 #[.slice A l.length c] w (fun e w' => (∃ A2 c2, e = .returned (.slice A2 (stripL l).length c2) ∧ OwnL encF w' w.heap.size 47 A2 c2 (stripL l)) ∧ Below w.heap.size w w') := by
  obtain ⟨hl, hx⟩ := sum_big hsum
  have hl7 := hopsL_len l
  have hj := join_ok (nm := lowL connL) hsum
  have hget := fun w hr => w_GetR connL (by decide) l (fun f hf => (hx f hf).1) hl hsum A c w hr
  rw [getGo_all] at hget
  have hwo := fun A' c' w hr hr' => w_WithoutN (hopsL l) (by omega) l (fun f hf => ⟨Nat.le_trans (hx f hf).1 (by decide), Nat.le_trans (hx f hf).2 (by decide)⟩) (by omega) A A' c c' w hr hr'
  have hst : stripL l = dropP (hitsN (hopsL l)) l := rfl
  rw [hst]
  generalize dropP (hitsN (hopsL l)) l = out at hwo ⊢
  have hho : hopsL l = hop7 ++ (partsOf (Lib.join (valsL (lowL connL) l) sepL)).map lowL := rfl
  generalize hopsL l = hs at hho hwo hl7
  generalize Lib.join (valsL (lowL connL) l) sepL = s at hj hget hho
  generalize (!(valsL (lowL connL) l).isEmpty) = is at hget
  have Hho := Lib.hid hho
  have Hwo := Lib.hid hwo
  clear hho hwo
  go_enter Try.func33, Try.ntmps33
  go_wp2_with fail
  refine (hget _ hr).mono ?_
  rintro e w1 ⟨rfl, hb1⟩
  have hs1 := hb1.size
  cases hsp : splitE s with
  | error n =>
    have HR := Lib.hid (show hs = hop7 from by rw [Hho.out, partsOf_err hsp]; simp)
    go_wp2_with fail
    refine (w_SplitR s (by omega) _).mono ?_
    intro e w2 hp2
    obtain ⟨rfl, hb2⟩ := hp2.err hsp
    have hB2 := hb1.trans (hb2.mono hs1)
    have hlit : ReadL encS (w2.alloc (.cells #[S [99, 111, 110, 110, 101, 99, 116, 105, 111, 110], S [107, 101, 101, 112, 45, 97, 108, 105, 118, 101], S [112, 114, 111, 120, 121, 45, 99, 111, 110, 110, 101, 99, 116, 105, 111, 110], S [116, 101], S [116, 114, 97, 105, 108, 101, 114], S [116, 114, 97, 110, 115, 102, 101, 114, 45, 101, 110, 99, 111, 100, 105, 110, 103], S [117, 112, 103, 114, 97, 100, 101]] 9)) (w2.heap.size + 1) (some ⟨w2.heap.size, 0, none⟩) hop7 := ReadL.lit (E := encS) w2 #[S [99, 111, 110, 110, 101, 99, 116, 105, 111, 110], S [107, 101, 101, 112, 45, 97, 108, 105, 118, 101], S [112, 114, 111, 120, 121, 45, 99, 111, 110, 110, 101, 99, 116, 105, 111, 110], S [116, 101], S [116, 114, 97, 105, 108, 101, 114], S [116, 114, 97, 110, 115, 102, 101, 114, 45, 101, 110, 99, 111, 100, 105, 110, 103], S [117, 112, 103, 114, 97, 100, 101]] _ hop7 rfl
    have hBl := hB2.alloc hB2.size (.cells #[S [99, 111, 110, 110, 101, 99, 116, 105, 111, 110], S [107, 101, 101, 112, 45, 97, 108, 105, 118, 101], S [112, 114, 111, 120, 121, 45, 99, 111, 110, 110, 101, 99, 116, 105, 111, 110], S [116, 101], S [116, 114, 97, 105, 108, 101, 114], S [116, 114, 97, 110, 115, 102, 101, 114, 45, 101, 110, 99, 111, 100, 105, 110, 103], S [117, 112, 103, 114, 97, 100, 101]] 9)
    go_wp2_with fail
    go_loop [7, 23] (fun o i' => i' = .int .i64 0 ∧ o = .slice (some ⟨w2.heap.size, 0, none⟩) 7 7) (fun _ _ => 0)
    case atStart => exact ⟨rfl, rfl⟩
    case round =>
      obtain ⟨rfl, rfl⟩ := hrel
      have hw2 := Hwo.out (some ⟨w2.heap.size, 0, none⟩) 7 _ ((hr.below hBl (Nat.le_refl _)).more hBl.size) (by rw [HR.out]; exact hlit.more (by simp))
      rw [HR.out] at hw2
      go_wp2_with (go_at_call 77; refine hw2.mono ?_; rintro e w3 ⟨⟨A3, c3, rfl, ho3⟩, hb3⟩)
      go_ret
      exact ⟨⟨A3, c3, rfl, ho3.base_le hBl.size⟩, hBl.trans (hb3.mono hBl.size)⟩
  | ok ps =>
    have hp20 := splitE_20 hsp
    have htx := splitE_text hsp
    have HR := Lib.hid (show hs = hop7 ++ ps.map lowL from by rw [Hho.out, partsOf_ok hsp])
    go_wp2_with fail
    refine (w_SplitR s (by omega) _).mono ?_
    intro e w2 hp2
    obtain ⟨AL, cL, rfl, hownL, hb2⟩ := hp2.ok_ hsp
    have hs2 := hb2.size
    have hB2 := hb1.trans (hb2.mono hs1)
    have Hread := Lib.hid (hownL.read)
    clear hownL
    have hlit : OwnL encS (w2.alloc (.cells #[S [99, 111, 110, 110, 101, 99, 116, 105, 111, 110], S [107, 101, 101, 112, 45, 97, 108, 105, 118, 101], S [112, 114, 111, 120, 121, 45, 99, 111, 110, 110, 101, 99, 116, 105, 111, 110], S [116, 101], S [116, 114, 97, 105, 108, 101, 114], S [116, 114, 97, 110, 115, 102, 101, 114, 45, 101, 110, 99, 111, 100, 105, 110, 103], S [117, 112, 103, 114, 97, 100, 101]] 9)) w2.heap.size 9 (some ⟨w2.heap.size, 0, none⟩) 7 hop7 := own_lit w2 w2.heap.size 9 #[S [99, 111, 110, 110, 101, 99, 116, 105, 111, 110], S [107, 101, 101, 112, 45, 97, 108, 105, 118, 101], S [112, 114, 111, 120, 121, 45, 99, 111, 110, 110, 101, 99, 116, 105, 111, 110], S [116, 101], S [116, 114, 97, 105, 108, 101, 114], S [116, 114, 97, 110, 115, 102, 101, 114, 45, 101, 110, 99, 111, 100, 105, 110, 103], S [117, 112, 103, 114, 97, 100, 101]] hop7 rfl (Nat.le_refl _) (by simp [maxLen, hop7])
    go_wp2_with fail
    go_loopw [7, 23] (fun o i' wr => ∃ (k : Nat) (A2 : Option Addr) (c2 : Nat), i' = .int .i64 k ∧ o = .slice A2 (7 + k) c2 ∧ k ≤ ps.length ∧ Below w2.heap.size w2 wr ∧ OwnL encS wr w2.heap.size 9 A2 c2 (hop7 ++ (ps.take k).map lowL)) (fun _ i' _ => ps.length - (intOf i').toNat)
    case atStart => exact ⟨0, some ⟨w2.heap.size, 0, none⟩, 7, rfl, rfl, by omega, (Below.refl _ _).alloc (Nat.le_refl _) _, by simpa using hlit⟩
    case round =>
      obtain ⟨k, A2, c2, rfl, rfl, hk, hbel, hown⟩ := hrel
      have hbs := hbel.size
      have hn7 : (hop7 ++ (ps.take k).map lowL).length = 7 + k := by simp [hop7]; omega
      by_cases hlt : k < ps.length
      · obtain ⟨t, hx1, _⟩ := drop_step hlt
        have htl := htx t (List.mem_of_getElem? hx1)
        obtain ⟨b, off, rfl, hbb, hcell⟩ := (Hread.out.below hbel (Nat.le_refl _)).at_S hx1
        have hnext : hop7 ++ (ps.take (k + 1)).map lowL = (hop7 ++ (ps.take k).map lowL) ++ [lowL t] := by rw [List.take_add_one, hx1]; simp
        have Hnext := Lib.hid hnext
        have hown' := Lib.hid hown
        clear hnext hx1 hown
        go_wp2_with (first
          | (go_at_call 15; refine (w_LowerR t (by omega) _).mono ?_; rintro e w3 ⟨rfl, rfl⟩)
          | (at_builtin; refine wpList_app (l := hop7 ++ (ps.take k).map lowL) encS sl_strG [lowL t] rfl _ _ rfl (by rw [hn7]; rfl) hown'.out #[S (lowL t)] rfl 0 rfl (by first | rfl | (simp [go_sem]; done)) (by rw [hn7]; omega) (by rw [hn7]; simp only [maxLen]; omega) (by omega) ?_; intro g' c'' w4 hown4 hg4 hb4 hbg))
        go_roundw
        case rel => exact ⟨k + 1, some ⟨g', 0, none⟩, c'', by go_num, by first | rfl | (rw [hn7]; rfl) | (simp [hop7]; omega), by omega, hbel.trans hb4, by rw [Hnext.out]; exact hown4⟩
        case measure => simp [intOf]; omega
      · obtain rfl : k = ps.length := by omega
        rw [List.take_length] at hown hn7
        have hBw := hB2.trans (hbel.mono hB2.size)
        have hw2 := Hwo.out A2 c2 wr ((hr.below hBw (Nat.le_refl _)).more hBw.size) (by rw [HR.out]; exact hown.read)
        rw [HR.out, hn7] at hw2
        clear hown
        go_wp2_with (go_at_call 77; refine hw2.mono ?_; rintro e w3 ⟨⟨A3, c3, rfl, ho3⟩, hb3⟩)
        go_ret
        exact ⟨⟨A3, c3, rfl, ho3.base_le hBw.size⟩, hBw.trans (hb3.mono hBw.size)⟩

theorem w_InvalR (m : List UInt8) (k : Int) (w : World) :
    Calls Try.prog 35 #[S m, .int .i64 k] w (fun e w' => e = .returned (.bool (inval m k)) ∧ Below w.heap.size w w') := by
  have hlit : ReadL encS (w.alloc (.cells #[S [80, 85, 84], S [80, 79, 83, 84], S [68, 69, 76, 69, 84, 69], S [80, 65, 84, 67, 72]] 9)) (w.heap.size + 1) (some ⟨w.heap.size, 0, none⟩) mets4 := ReadL.lit (E := encS) w #[S [80, 85, 84], S [80, 79, 83, 84], S [68, 69, 76, 69, 84, 69], S [80, 65, 84, 67, 72]] _ mets4 rfl
  have hc := w_HasS m mets4 (by decide) (some ⟨w.heap.size, 0, none⟩) 4 _ _ hlit
  have hi : inval m k = ((mets4.any fun y => m == y) && decide (200 ≤ k) && decide (k < 400)) := rfl
  have ho : (!(decide (k < 200) || decide (399 < k))) = (decide (200 ≤ k) && decide (k < 400)) := by
    rw [Bool.eq_iff_iff]; simp; omega
  rw [hi, Bool.and_assoc, ← ho]
  cases ha : (mets4.any fun y => m == y)
  · rw [ha] at hc
    go_enter Try.func35, Try.ntmps35
    go_wp2_with fail
    refine hc.mono ?_
    rintro e w1 ⟨rfl, rfl⟩
    go_wp2_with fail
    go_ret
    exact ⟨rfl, (Below.refl _ _).alloc (Nat.le_refl _) _⟩
  · rw [ha] at hc
    go_enter Try.func35, Try.ntmps35
    go_wp2_with fail
    refine hc.mono ?_
    rintro e w1 ⟨rfl, rfl⟩
    go_wp2_with (go_at_call 80; refine (w_outside k 200 399 _).mono ?_; rintro e w2 ⟨rfl, rfl⟩)
    go_ret
    rw [Bool.true_and, ho]
    exact ⟨rfl, (Below.refl _ _).alloc (Nat.le_refl _) _⟩
end Go.Proofs.Ytiaboojdplcaoaa
