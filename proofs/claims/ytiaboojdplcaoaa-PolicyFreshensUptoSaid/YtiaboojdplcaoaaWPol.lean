/- Walks: the program's Strip, Invalidates. -/
import Derived.Test.YtiaboojdplcaoaaWFldN
import Derived.Test.YtiaboojdplcaoaaWGet
import Derived.Test.YtiaboojdplcaoaaWSplit
import Derived.Test.YtiaboojdplcaoaaAppG
import Derived.Test.YtiaboojdplcaoaaSpecDir
namespace Go.Proofs.Ytiaboojdplcaoaa
open Go.RowKit Go.Larder
set_option linter.unusedVariables false
set_option linter.unusedSimpArgs false

theorem w_without (ns : List (List UInt8)) (hns : ns.length ≤ 140737488351232) (l : List Fld) (hx : ∀ f ∈ l, f.1.length ≤ 140737488351232 ∧ f.2.length ≤ 140737488351232) (hl : l.length * 32 ≤ 140737488351232) (A An : Option Addr) (c cn : Nat) (w : World) (hr : ReadL encF w w.heap.size A l) (hrn : ReadL encS w w.heap.size An ns) :
    Calls Try.prog 75 #[.slice A l.length c, .slice An ns.length cn] w (fun e w' => (∃ A2 c2, e = .returned (.slice A2 (dropP (hitsN ns) l).length c2) ∧ OwnL encF w' w.heap.size 47 A2 c2 (dropP (hitsN ns) l)) ∧ Below w.heap.size w w') := by
  have hsz : (w.alloc (.cells #[.slice An ns.length cn] 58)).heap.size = w.heap.size + 1 := by simp
  go_enter Try.func75, Try.ntmps75
  go_wp2_with fail
  refine (w_fclone l hl A c _ ((hr.alloc (Nat.le_refl _) _).more (by simp))).mono ?_
  rintro e w1 ⟨⟨A1, c1, rfl, ho1⟩, hb1⟩
  have hs1 := hb1.size
  rw [hsz] at hs1
  have hbx := box_kept hb1
  have hcell : w1.cell? ⟨w.heap.size, 0, none⟩ = some (.slice An ns.length cn) := by rw [Lib.cell_of_heap hbx]; rfl
  have hrn1 := ((hrn.alloc (Nat.le_refl _) (.cells #[.slice An ns.length cn] 58)).below hb1 (by simp)).more (show w.heap.size ≤ w.heap.size + 1 by omega)
  have ho2 : OwnL encF w1 (w.heap.size + 1) 47 A1 c1 l := by rw [← hsz]; exact ho1
  go_wp2_with fail
  refine (w_fdeleteN ns hns l hx hl (w.heap.size + 1) A1 c1 w.heap.size _ hs1 ho2 An cn (by omega) hcell hrn1).mono ?_
  rintro e w2 ⟨⟨A2, c2, rfl, ho3⟩, hb2⟩
  go_wp2_with fail
  go_ret
  exact ⟨⟨A2, c2, rfl, ho3.base_le (by omega)⟩, (((Below.refl w.heap.size w).alloc (Nat.le_refl _) _).trans (hb1.mono (by simp))).trans (hb2.mono (by omega))⟩

set_option maxHeartbeats 2000000 in
theorem w_hops (l : List Fld) (hsum : (l.map (fun f => f.1.length + f.2.length + 3)).sum ≤ 1048576) (A : Option Addr) (c : Nat) (w : World) (hr : ReadL encF w w.heap.size A l) :
    Calls Try.prog 76 #[.slice A l.length c] w (fun e w' => (∃ A2 c2, e = .returned (.slice A2 (hopsL l).length c2) ∧ OwnL encS w' w.heap.size 9 A2 c2 (hopsL l)) ∧ Below w.heap.size w w') := by
  obtain ⟨hl, hx⟩ := sum_big hsum
  have hj := join_ok (nm := lowL connL) hsum
  have hget := fun w hr => w_Get connL (by decide) l (fun f hf => (hx f hf).1) hl (Nat.le_trans hj (by decide)) A c w hr
  have hho : hopsL l = hop7 ++ (partsOf (Lib.join (valsL (lowL connL) l) sepL)).map lowL := rfl
  generalize hopsL l = hs at hho ⊢
  generalize Lib.join (valsL (lowL connL) l) sepL = s at hj hget hho
  generalize (!(valsL (lowL connL) l).isEmpty) = is at hget
  have Hho := Lib.hid hho
  clear hho
  have hlit : OwnL encS (w.alloc (.cells #[S [99, 111, 110, 110, 101, 99, 116, 105, 111, 110], S [107, 101, 101, 112, 45, 97, 108, 105, 118, 101], S [112, 114, 111, 120, 121, 45, 99, 111, 110, 110, 101, 99, 116, 105, 111, 110], S [116, 101], S [116, 114, 97, 105, 108, 101, 114], S [116, 114, 97, 110, 115, 102, 101, 114, 45, 101, 110, 99, 111, 100, 105, 110, 103], S [117, 112, 103, 114, 97, 100, 101]] 9)) w.heap.size 9 (some ⟨w.heap.size, 0, none⟩) 7 hop7 := own_lit w w.heap.size 9 #[S [99, 111, 110, 110, 101, 99, 116, 105, 111, 110], S [107, 101, 101, 112, 45, 97, 108, 105, 118, 101], S [112, 114, 111, 120, 121, 45, 99, 111, 110, 110, 101, 99, 116, 105, 111, 110], S [116, 101], S [116, 114, 97, 105, 108, 101, 114], S [116, 114, 97, 110, 115, 102, 101, 114, 45, 101, 110, 99, 111, 100, 105, 110, 103], S [117, 112, 103, 114, 97, 100, 101]] hop7 rfl (Nat.le_refl _) (by simp [maxLen, hop7])
  go_enter Try.func76, Try.ntmps76
  go_wp2_with fail
  refine (hget _ ((hr.alloc (Nat.le_refl _) _).more (by simp))).mono ?_
  rintro e w1 ⟨rfl, hb1⟩
  have hs1 := hb1.size
  have hs1' : w.heap.size + 1 ≤ w1.heap.size := by simpa using hs1
  have hB1 : Below w.heap.size w w1 := ((Below.refl _ _).alloc (Nat.le_refl _) _).trans (hb1.mono (by simp))
  have ho1 := hlit.below hb1 (Nat.le_refl _)
  cases hsp : splitE s with
  | error n =>
    have HR := Lib.hid (show hs = hop7 from by rw [Hho.out, partsOf_err hsp]; simp)
    go_wp2_with fail
    refine (w_Split s (by omega) _).mono ?_
    intro e w2 hp2
    obtain ⟨rfl, hb2⟩ := hp2.err hsp
    have ho2 := ho1.below hb2 (Nat.le_refl _)
    go_wp2_with fail
    go_loop [3, 23] (fun o i' => i' = .int .i64 0 ∧ o = .slice (some ⟨w.heap.size, 0, none⟩) 7 7) (fun _ _ => 0)
    case atStart => exact ⟨rfl, rfl⟩
    case round =>
      obtain ⟨rfl, rfl⟩ := hrel
      go_wp2_with fail
      go_ret
      rw [HR.out]
      exact ⟨⟨_, 7, rfl, ho2⟩, hB1.trans (hb2.mono (by omega))⟩
  | ok ps =>
    have hp20 := splitE_20 hsp
    have htx := splitE_text hsp
    have HR := Lib.hid (show hs = hop7 ++ ps.map lowL from by rw [Hho.out, partsOf_ok hsp])
    go_wp2_with fail
    refine (w_Split s (by omega) _).mono ?_
    intro e w2 hp2
    obtain ⟨AL, cL, rfl, hownL, hb2⟩ := hp2.ok_ hsp
    have hs2 := hb2.size
    have ho2 := ho1.below hb2 (Nat.le_refl _)
    have hB2 := hB1.trans (hb2.mono (by omega))
    have Hread := Lib.hid (hownL.read)
    have hALg : ∀ g, AL = some g → w1.heap.size ≤ g.block := fun g hg => by subst hg; exact (hownL.lt g rfl).1
    clear hownL
    go_wp2_with fail
    have hlitR : ReadL encS w2 w2.heap.size (some ⟨w.heap.size, 0, none⟩) hop7 := ho2.read
    go_loopw [3, 23] (fun o i' wr => ∃ (k : Nat) (A2 : Option Addr) (c2 : Nat), i' = .int .i64 k ∧ o = .slice A2 (7 + k) c2 ∧ k ≤ ps.length ∧ Below w2.heap.size w2 wr ∧ ((k = 0 ∧ A2 = some ⟨w.heap.size, 0, none⟩ ∧ c2 = 7) ∨ (0 < k ∧ OwnL encS wr w2.heap.size 9 A2 c2 (hop7 ++ (ps.take k).map lowL)))) (fun _ i' _ => ps.length - (intOf i').toNat)
    case atStart => exact ⟨0, some ⟨w.heap.size, 0, none⟩, 7, rfl, rfl, by omega, Below.refl _ _, .inl ⟨rfl, rfl, rfl⟩⟩
    case round =>
      obtain ⟨k, A2, c2, rfl, rfl, hk, hbel, hcase⟩ := hrel
      have hbs := hbel.size
      have hn7 : (hop7 ++ (ps.take k).map lowL).length = 7 + k := by simp [hop7]; omega
      by_cases hlt : k < ps.length
      · obtain ⟨t, hx1, _⟩ := drop_step hlt
        have htl := htx t (List.mem_of_getElem? hx1)
        obtain ⟨b, off, rfl, hbb, hcell⟩ := (Hread.out.below hbel (Nat.le_refl _)).at_S hx1
        have hnext : hop7 ++ (ps.take (k + 1)).map lowL = (hop7 ++ (ps.take k).map lowL) ++ [lowL t] := by rw [List.take_add_one, hx1]; simp
        have Hnext := Lib.hid hnext
        clear hnext hx1
        rcases hcase with ⟨rfl, rfl, rfl⟩ | ⟨hk0, hown⟩
        · have hcell0 : wr.cell? ⟨b, off, none⟩ = some (S t) := by simpa using hcell
          clear hcell
          go_wp2_with (first
            | (go_at_call 14; refine (w_Lower t (by omega) _).mono ?_; rintro e w3 ⟨rfl, hb3⟩
               have hs3 := hb3.size
               have hr3 : ReadL encS w3 w3.heap.size (some ⟨w.heap.size, 0, none⟩) hop7 := ((hlitR.below hbel (Nat.le_refl _)).below hb3 (by omega)).more (by omega))
            | (at_builtin; refine wpList_app_full (l := hop7) encS sl_strG [lowL t] rfl _ _ rfl w.heap.size 0 rfl hr3 #[S (lowL t)] rfl 0 rfl (by first | rfl | (simp [go_sem]; done)) (by decide) (by decide) (by decide) ?_; intro g' c'' w4 hown4 hb4))
          go_roundw
          case rel => exact ⟨1, some ⟨g', 0, none⟩, c'', by go_num, by first | rfl | (simp [hop7]; done), by omega, (hbel.trans (hb3.mono hbs)).trans (hb4.mono (by omega)), .inr ⟨by omega, by rw [Hnext.out]; exact hown4.base_le (by omega)⟩⟩
          case measure => simp [intOf]; omega
        · have hown' := Lib.hid hown
          clear hown
          go_wp2_with (first
            | (go_at_call 14; refine (w_Lower t (by omega) _).mono ?_; rintro e w3 ⟨rfl, hb3⟩
               have hs3 := hb3.size
               have hown3 := hown'.out.below hb3 (Nat.le_refl _))
            | (at_builtin; refine wpList_app (l := hop7 ++ (ps.take k).map lowL) encS sl_strG [lowL t] rfl _ _ rfl (by rw [hn7]; rfl) hown3 #[S (lowL t)] rfl 0 rfl (by first | rfl | (simp [go_sem]; done)) (by rw [hn7]; omega) (by rw [hn7]; simp only [maxLen]; omega) (by omega) ?_; intro g' c'' w4 hown4 hg4 hb4 hbg))
          go_roundw
          case rel => exact ⟨k + 1, some ⟨g', 0, none⟩, c'', by go_num, by first | rfl | (rw [hn7]; rfl) | (simp [hop7]; omega), by omega, (hbel.trans (hb3.mono hbs)).trans hb4, .inr ⟨by omega, by rw [Hnext.out]; exact hown4⟩⟩
          case measure => simp [intOf]; omega
      · obtain rfl : k = ps.length := by omega
        rw [List.take_length] at hcase hn7
        have hh : hs = hop7 ++ ps.map lowL := HR.out
        have hBw := hB2.trans (hbel.mono hB2.size)
        have hout : OwnL encS wr w.heap.size 9 A2 c2 (hop7 ++ ps.map lowL) := by
          rcases hcase with ⟨h0, rfl, rfl⟩ | ⟨_, hown⟩
          · have hp0 : ps = [] := List.eq_nil_of_length_eq_zero h0
            subst hp0
            simpa using ho2.below hbel (Nat.le_refl _)
          · exact hown.base_le hB2.size
        clear hcase
        go_wp2_with fail
        go_ret
        rw [hh]
        exact ⟨⟨A2, c2, by rw [hn7]; rfl, hout⟩, hBw⟩

theorem w_Strip (l : List Fld) (hsum : (l.map (fun f => f.1.length + f.2.length + 3)).sum ≤ 1048576) (A : Option Addr) (c : Nat) (w : World) (hr : ReadL encF w w.heap.size A l) :
    Calls Try.prog 32 #[.slice A l.length c] w (fun e w' => (∃ A2 c2, e = .returned (.slice A2 (stripL l).length c2) ∧ OwnL encF w' w.heap.size 47 A2 c2 (stripL l)) ∧ Below w.heap.size w w') := by
  obtain ⟨hl, hx⟩ := sum_big hsum
  have hl7 := hopsL_len l
  go_enter Try.func32, Try.ntmps32
  go_wp2_with fail
  refine (w_hops l hsum A c _ hr).mono ?_
  rintro e w1 ⟨⟨A1, c1, rfl, ho1⟩, hb1⟩
  go_wp2_with fail
  refine (w_without (hopsL l) (by omega) l (fun f hf => ⟨Nat.le_trans (hx f hf).1 (by decide), Nat.le_trans (hx f hf).2 (by decide)⟩) (by omega) A A1 c c1 _ ((hr.below hb1 (Nat.le_refl _)).more hb1.size) ho1.read).mono ?_
  rintro e w2 ⟨⟨A2, c2, rfl, ho2⟩, hb2⟩
  go_wp2_with fail
  go_ret
  exact ⟨⟨A2, c2, rfl, ho2.base_le hb1.size⟩, hb1.trans (hb2.mono hb1.size)⟩

theorem w_Inval (m : List UInt8) (k : Int) (w : World) :
    Calls Try.prog 34 #[S m, .int .i64 k] w (fun e w' => e = .returned (.bool (inval m k)) ∧ Below w.heap.size w w') := by
  have hlit : ReadL encS (w.alloc (.cells #[S [80, 85, 84], S [80, 79, 83, 84], S [68, 69, 76, 69, 84, 69], S [80, 65, 84, 67, 72]] 9)) (w.heap.size + 1) (some ⟨w.heap.size, 0, none⟩) mets4 := ReadL.lit (E := encS) w #[S [80, 85, 84], S [80, 79, 83, 84], S [68, 69, 76, 69, 84, 69], S [80, 65, 84, 67, 72]] _ mets4 rfl
  have hc := w_slContains m mets4 (by decide) (some ⟨w.heap.size, 0, none⟩) 4 _ _ hlit
  have hi : inval m k = ((mets4.any fun y => m == y) && decide (200 ≤ k) && decide (k < 400)) := rfl
  rw [hi]
  cases ha : (mets4.any fun y => m == y)
  · rw [ha] at hc
    go_enter Try.func34, Try.ntmps34
    go_wp2_with fail
    refine hc.mono ?_
    rintro e w1 ⟨rfl, rfl⟩
    go_wp2_with fail
    go_ret
    exact ⟨rfl, (Below.refl _ _).alloc (Nat.le_refl _) _⟩
  · rw [ha] at hc
    by_cases h1 : 200 ≤ k
    · have h1' : decide (200 ≤ k) = true := by simp [h1]
      rw [h1']
      go_enter Try.func34, Try.ntmps34
      go_wp2_with fail
      refine hc.mono ?_
      rintro e w1 ⟨rfl, rfl⟩
      go_wp2_with fail
      go_ret
      exact ⟨rfl, (Below.refl _ _).alloc (Nat.le_refl _) _⟩
    · have h1' : decide (200 ≤ k) = false := by simp [h1]
      rw [h1']
      go_enter Try.func34, Try.ntmps34
      go_wp2_with fail
      refine hc.mono ?_
      rintro e w1 ⟨rfl, rfl⟩
      go_wp2_with fail
      go_ret
      exact ⟨rfl, (Below.refl _ _).alloc (Nat.le_refl _) _⟩
end Go.Proofs.Ytiaboojdplcaoaa
