/- WDkX, WDkY -/
import Derived.Test.YtemjoiaapfhenaaGreatDoorWDkV
import Derived.Test.YtemjoiaapfhenaaGreatDoorGd21

/- WDkX -/
section
namespace Go.Proofs.YtemjoiaapfhenaaGreatDoor
open Go.RowKit Go.Larder
set_option linter.unusedVariables false
set_option linter.unusedSimpArgs false
theorem any_wd {word : Txd} (h : (wsD.any fun y => word == y) = false) (l : List Txd) : deskE word l = .error 3 := by
  simp only [wsD, List.any_cons, List.any_nil, Bool.or_eq_false_iff, beq_eq_false_iff_ne, ne_eq] at h
  obtain ⟨h0, h1, h2, h3, h4, h5, h6, h7, h8, h9, h10, h11, _⟩ := h
  unfold deskE
  rw [if_neg h0, if_neg h1, if_neg h2, if_neg h3, if_neg h4, if_neg h5, if_neg h6, if_neg h7, if_neg h8, if_neg h9, if_neg h10, if_neg h11]
set_option maxHeartbeats 2000000 in
set_option maxRecDepth 100000 in
theorem w_rnone (word : Txd) (hw : (wsD.any fun y => word == y) = false) (l : List Txd) (A : Option Addr) (c : Nat) (w : World) : Calls Tryz.prog 9 #[S word, .slice A l.length c] w (RfOut w (.error 3)) := by
  have hHas := has_at word w
  rw [hw] at hHas
  have hB0 : Below w.heap.size w (w.alloc (.cells litD 9)) := (Below.refl _ _).alloc (Nat.le_refl _) _
  clear hw
  go_enter Tryz.func9, Tryz.ntmps9
  go_wp2_with (go_at_call 16; refine hHas.mono ?_; rintro e w1 ⟨rfl, rfl⟩)
  go_ret2
  exact ⟨⟨_, rfl⟩, hB0⟩
set_option maxHeartbeats 2000000 in
set_option maxRecDepth 100000 in
theorem w_rmany (word : Txd) (hw : (wsD.any fun y => word == y) = true) (b : Bool) (hb : (word == wd_range) = b) (n : Nat) (hn : ¬ (n : Int) = 1 + (if b then 1 else 0)) (A : Option Addr) (c : Nat) (w : World) : Calls Tryz.prog 9 #[S word, .slice A n c] w (RfOut w (.error 3)) := by
  have hHas := has_at word w
  rw [hw] at hHas
  have hB0 : Below w.heap.size w (w.alloc (.cells litD 9)) := (Below.refl _ _).alloc (Nat.le_refl _) _
  have htr := fun W => w_truthD b W
  cases b
  · have hE : ((n : Int) == 1) = false := by simpa using hn
    simp only [Bool.false_eq_true, if_false] at htr
    clear hw hn
    go_enter Tryz.func9, Tryz.ntmps9
    go_wp2_with (first
      | (go_at_call 16; refine hHas.mono ?_; rintro e w1 ⟨rfl, rfl⟩)
      | (go_at_call 17; refine (htr _).mono ?_; rintro e w1 ⟨rfl, rfl⟩))
    go_ret2
    exact ⟨⟨_, rfl⟩, hB0⟩
  · have hE : ((n : Int) == 2) = false := by simpa using hn
    simp only [if_true] at htr
    clear hw hn
    go_enter Tryz.func9, Tryz.ntmps9
    go_wp2_with (first
      | (go_at_call 16; refine hHas.mono ?_; rintro e w1 ⟨rfl, rfl⟩)
      | (go_at_call 17; refine (htr _).mono ?_; rintro e w1 ⟨rfl, rfl⟩))
    go_ret2
    exact ⟨⟨_, rfl⟩, hB0⟩
theorem rout_er {w : World} {E : Except Int Txd} {e : Ending} {w' : World} (hE : E = .error 3) (h : RfOut w (.error 3) e w') : RfOut w E e w' := by subst hE; exact h
theorem deskE_many {word : Txd} {l : List Txd} (hr : ¬ word = wd_range) (h1 : ¬ ∃ s, l = [s]) : deskE word l = .error 3 := by
  unfold deskE
  by_cases h0 : word = wd_quote
  · rw [if_pos h0]; rcases l with _ | ⟨a, _ | ⟨b, r⟩⟩; rfl; exact absurd ⟨a, rfl⟩ h1; rfl
  rw [if_neg h0]
  by_cases h1 : word = wd_unquote
  · rw [if_pos h1]; rcases l with _ | ⟨a, _ | ⟨b, r⟩⟩; rfl; exact absurd ⟨a, rfl⟩ h1; rfl
  rw [if_neg h1]
  by_cases h2 : word = wd_split
  · rw [if_pos h2]; rcases l with _ | ⟨a, _ | ⟨b, r⟩⟩; rfl; exact absurd ⟨a, rfl⟩ h1; rfl
  rw [if_neg h2]
  by_cases h3 : word = wd_date
  · rw [if_pos h3]; rcases l with _ | ⟨a, _ | ⟨b, r⟩⟩; rfl; exact absurd ⟨a, rfl⟩ h1; rfl
  rw [if_neg h3]
  by_cases h4 : word = wd_time
  · rw [if_pos h4]; rcases l with _ | ⟨a, _ | ⟨b, r⟩⟩; rfl; exact absurd ⟨a, rfl⟩ h1; rfl
  rw [if_neg h4]
  by_cases h5 : word = wd_normal
  · rw [if_pos h5]; rcases l with _ | ⟨a, _ | ⟨b, r⟩⟩; rfl; exact absurd ⟨a, rfl⟩ h1; rfl
  rw [if_neg h5]
  by_cases h6 : word = wd_control
  · rw [if_pos h6]; rcases l with _ | ⟨a, _ | ⟨b, r⟩⟩; rfl; exact absurd ⟨a, rfl⟩ h1; rfl
  rw [if_neg h6]
  by_cases h7 : word = wd_tag
  · rw [if_pos h7]; rcases l with _ | ⟨a, _ | ⟨b, r⟩⟩; rfl; exact absurd ⟨a, rfl⟩ h1; rfl
  rw [if_neg h7]
  rw [if_neg hr]
  by_cases h9 : word = wd_cut
  · rw [if_pos h9]; rcases l with _ | ⟨a, _ | ⟨b, r⟩⟩; rfl; exact absurd ⟨a, rfl⟩ h1; rfl
  rw [if_neg h9]
  by_cases h10 : word = wd_sum
  · rw [if_pos h10]; rcases l with _ | ⟨a, _ | ⟨b, r⟩⟩; rfl; exact absurd ⟨a, rfl⟩ h1; rfl
  rw [if_neg h10]
  by_cases h11 : word = wd_crc
  · rw [if_pos h11]; rcases l with _ | ⟨a, _ | ⟨b, r⟩⟩; rfl; exact absurd ⟨a, rfl⟩ h1; rfl
  rw [if_neg h11]
theorem w_rdesk (word : Txd) (l : List Txd) (hl : l.length ≤ 400) (hs : ∀ x ∈ l, x.length ≤ 1000) (A : Option Addr) (c : Nat) (w : World) (hr : ReadL encS w w.heap.size A l) (hD : DrW w) : Calls Tryz.prog 9 #[S word, .slice A l.length c] w (RfOut w (deskE word l)) := by
  cases hw : (wsD.any fun y => word == y)
  · exact (w_rnone word hw l A c w).mono fun e w' h => rout_er (any_wd hw l) h
  · by_cases hrg : word = wd_range
    · subst hrg
      by_cases h2 : ∃ s t, l = [s, t]
      · obtain ⟨s, t, rfl⟩ := h2
        exact w_rrange s t (hs s (by simp)) (hs t (by simp)) A c w hr hD
      · refine (w_rmany wd_range hw true (by decide) l.length ?_ A c w).mono fun e w' h => rout_er ?_ h
        · rcases l with _ | ⟨a, _ | ⟨b, _ | ⟨d, r⟩⟩⟩
          · simp
          · simp
          · exact absurd ⟨a, b, rfl⟩ h2
          · simp only [List.length_cons, if_true]; omega
        · show rangeD l = .error 3
          rcases l with _ | ⟨a, _ | ⟨b, _ | ⟨d, r⟩⟩⟩
          · rfl
          · rfl
          · exact absurd ⟨a, b, rfl⟩ h2
          · rfl
    · by_cases h1 : ∃ s, l = [s]
      · obtain ⟨s, rfl⟩ := h1
        have hs1 := hs s (by simp)
        simp only [wsD, List.any_cons, List.any_nil, Bool.or_eq_true, beq_iff_eq, Bool.or_false] at hw
        rcases hw with rfl | rfl | rfl | rfl | rfl | rfl | rfl | rfl | rfl | rfl | rfl | rfl
        · exact w_rquote s hs1 A c w hr hD
        · exact w_runquote s hs1 A c w hr hD
        · exact w_rsplit s hs1 A c w hr hD
        · exact w_rdate s hs1 A c w hr hD
        · exact w_rtime s hs1 A c w hr hD
        · exact w_rnormal s hs1 A c w hr hD
        · exact w_rcontrol s hs1 A c w hr hD
        · exact w_rtag s hs1 A c w hr hD
        · exact absurd rfl hrg
        · exact w_rcut s hs1 A c w hr hD
        · exact w_rsum s hs1 A c w hr hD
        · exact w_rcrc s hs1 A c w hr hD
      · have hlen : ¬ l.length = 1 := fun h0 => by
          rcases l with _ | ⟨a, _ | ⟨b, r⟩⟩
          · simp at h0
          · exact h1 ⟨a, rfl⟩
          · simp at h0
        refine (w_rmany word hw false (by simpa using hrg) l.length (by simp only [Bool.false_eq_true, if_false]; omega) A c w).mono fun e w' h => rout_er ?_ h
        rcases cmd_cases word with ⟨_, hd⟩ | ⟨f, F, _, _, hd, _⟩
        · exact hd l
        · exact deskE_many hrg h1
end Go.Proofs.YtemjoiaapfhenaaGreatDoor
end

/- WDkY -/
section
namespace Go.Proofs.YtemjoiaapfhenaaGreatDoor
open Go.RowKit Go.Larder
set_option linter.unusedVariables false
set_option linter.unusedSimpArgs false
theorem long_snoc {l : List Txd} {k : Nat} {x : Txd} (h : l[k]? = some x) : (decide (60 < l.length) || (l.take (k + 1)).any fun s => decide (300 < s.length)) = ((decide (60 < l.length) || (l.take k).any fun s => decide (300 < s.length)) || decide (300 < x.length)) := by
  rw [List.take_add_one, h, List.any_append]
  simp [Bool.or_assoc]
/-- one line, the reference's: its words, and what it makes of them -/
theorem RfOut.cases {w : World} {E : Except Int Txd} {e : Ending} {w' : World} (h : RfOut w E e w') : Below w.heap.size w w' ∧ ((∃ t, E = .ok t ∧ e = .returned (.tuple #[S t, .int .i64 0])) ∨ ∃ n a, E = .error n ∧ e = .returned (.tuple #[S a, .int .i64 n])) := by
  obtain ⟨h1, h2⟩ := h
  refine ⟨h2, ?_⟩
  cases E with
  | ok t => exact .inl ⟨t, rfl, h1⟩
  | error n => obtain ⟨a, h1⟩ := h1; exact .inr ⟨n, a, rfl, h1⟩
set_option maxHeartbeats 8000000 in
theorem w_DRunR (l : List Txd) (hl : l.length ≤ 140737488351232) (A : Option Addr) (c : Nat) (w : World) (hr : ReadL encS w w.heap.size A l) (hD : DrW w) :
    Calls Tryz.prog 5 #[.slice A l.length c] w (SlPost encS 9 w (runD l)) := by
  obtain ⟨R, hR⟩ : ∃ R, runD l = R := ⟨_, rfl⟩
  rw [hR]
  unfold runD at hR
  have HR := Lib.hid hR
  clear hR
  obtain ⟨b0, hb0⟩ : ∃ b, decide (60 < l.length) = b := ⟨_, rfl⟩
  have hI : decide ((60 : Int) < (l.length : Int)) = b0 := by rw [← hb0]; congr 1; exact propext ⟨fun h => by omega, fun h => by omega⟩
  go_enter Tryz.func5, Tryz.ntmps5
  go_wp2_with fail
  go_loopw [4, 18] (fun o i' wr => ∃ (k : Nat) (b : Bool), i' = .int .i64 k ∧ o = .bool b ∧ k ≤ l.length ∧ wr = w ∧ Hid (b = (decide (60 < l.length) || (l.take k).any fun s => decide (300 < s.length)))) (fun _ i' _ => l.length - (intOf i').toNat)
  case atStart => exact ⟨0, b0, rfl, by first | rfl | (rw [← hI]), by omega, rfl, Lib.hid (by rw [hb0]; simp)⟩
  case round =>
    obtain ⟨k, b, rfl, rfl, hk, rfl, Hb⟩ := hrel
    by_cases hlt : k < l.length
    · obtain ⟨x, hx, _⟩ := drop_step hlt
      obtain ⟨g, off, rfl, hgb, hc0⟩ := hr.at_S hx
      have Hn := Lib.hid (long_snoc hx)
      clear hx
      cases b
      · have Hb2 := Lib.hid (show decide (300 < x.length) = (decide (60 < l.length) || (l.take (k + 1)).any fun s => decide (300 < s.length)) from by rw [Hn.out, ← Hb.out]; rfl)
        obtain ⟨b3, hb3⟩ : ∃ b, decide (300 < x.length) = b := ⟨_, rfl⟩
        have h3I : decide ((300 : Int) < (x.length : Int)) = b3 := by rw [← hb3]; congr 1; exact propext ⟨fun h => by omega, fun h => by omega⟩
        rw [hb3] at Hb2
        clear Hn Hb
        cases b3
        · have h3 : ¬ (300 : Int) < (x.length : Int) := of_decide_eq_false h3I
          clear hb3 h3I
          go_wp2_with fail
          go_roundw
          case rel => exact ⟨k + 1, false, by go_num, by first | rfl | trivial, by omega, by first | rfl | trivial, Hb2⟩
          case measure => simp [intOf]; omega
        · have h3 : (300 : Int) < (x.length : Int) := of_decide_eq_true h3I
          clear hb3 h3I
          go_wp2_with fail
          go_roundw
          case rel => exact ⟨k + 1, true, by go_num, by first | rfl | trivial, by omega, by first | rfl | trivial, Hb2⟩
          case measure => simp [intOf]; omega
      · have Hb2 := Lib.hid (show true = (decide (60 < l.length) || (l.take (k + 1)).any fun s => decide (300 < s.length)) from by rw [Hn.out, ← Hb.out]; rfl)
        clear Hn Hb
        go_wp2_with fail
        go_roundw
        case rel => exact ⟨k + 1, true, by go_num, by first | rfl | trivial, by omega, by first | rfl | trivial, Hb2⟩
        case measure => simp [intOf]; omega
    · obtain rfl : k = l.length := by omega
      have hbl : longD l = b := by rw [Hb.out, List.take_length]; rfl
      cases b
      · have Hq := Lib.hid (show R = .ok (l.map answD) from by rw [← HR.out, hbl]; rfl)
        have h60 : l.length ≤ 60 := by
          unfold longD at hbl
          rw [Bool.or_eq_false_iff] at hbl
          have := of_decide_eq_false hbl.1
          omega
        have Hl := Lib.hid (fun x (hx : x ∈ l) => (show x.length ≤ 300 from by
          unfold longD at hbl
          rw [Bool.or_eq_false_iff] at hbl
          have := List.any_eq_false.1 hbl.2 x hx
          simp only [decide_eq_true_eq] at this
          omega))
        clear HR Hb hbl hb0 hI
        go_wp2_with fail

        go_loopw [7, 32] (fun o i' wq => ∃ (k : Nat) (out : List Txd) (A2 : Option Addr) (c2 : Nat), i' = .int .i64 k ∧ o = .slice A2 out.length c2 ∧ k ≤ l.length ∧ out.length ≤ k ∧ OwnL encS wq wr.heap.size 9 A2 c2 out ∧ Below wr.heap.size wr wq ∧ Hid (out = (l.take k).map answD)) (fun _ i' _ => l.length - (intOf i').toNat)
        case atStart => exact ⟨0, [], none, 0, rfl, rfl, by omega, by simp, OwnL.nil _ _ _, Below.refl _ _, Lib.hid rfl⟩
        case round =>
          obtain ⟨k, out, A2, c2, rfl, rfl, hk, hok, hown, hbel, Ho⟩ := hrel
          have hbs := hbel.size
          by_cases hlt : k < l.length
          · obtain ⟨x, hx, _⟩ := drop_step hlt
            have hx3 := Hl.out x (List.mem_of_getElem? hx)
            obtain ⟨g, off, rfl, hgb, hc0⟩ := (hr.below hbel (Nat.le_refl _)).at_S hx
            have Hsn := Lib.hid (dan_snoc hx)
            obtain ⟨k0, r, hsp⟩ := spl_some 38 x
            have hans : answD x = shownE (deskE k0 r) := by unfold answD; rw [hsp]; rfl
            rw [hans] at Hsn
            have hlen : (k0 :: r).length ≤ 301 := by
              rw [← hsp, spl_len]
              have := List.count_le_length (a := (38 : UInt8)) (l := x)
              omega
            have hmem : ∀ y ∈ k0 :: r, y.length ≤ 300 := fun y hy => by
              have := spl_mem_len (c := 38) (s := x) (by rw [hsp]; exact hy)
              omega
            have hDq := hD.keep hbel
            have hst := fun W hM => w_Split x [38] (by omega) (by simp) W hM
            rw [split_spl, hsp] at hst
            clear hx hans
            go_wp2_with (go_at_call 8; refine (hst _ hDq.1).mono ?_; rintro e w2 ⟨rfl, ho2, hb2⟩)
            have hB2 := hbel.trans (hb2.mono hbs)
            have hown2 := hown.below hb2 (Nat.le_refl _)
            have hr2 := ho2.read
            obtain ⟨gl, ol, hA, hgl, hc2⟩ := ho2.read.at_S (k := 0) rfl
            obtain ⟨rfl, rfl⟩ : _ = gl ∧ 0 = ol := by injection hA with hA; injection hA with h1 h2; exact ⟨h1, h2⟩
            obtain ⟨A6, c6, hs6, hr6, hc6⟩ := sl_at hr2 (by simp) (Nat.le_refl (r.length + 1)) 1 1 rfl r.length rfl
            simp only [Nat.add_zero] at hc2
            have hc2d : w2.drew.cell? ⟨_, 0, none⟩ = some (S k0) := hc2
            have hD2 := (hD.keep hB2)
            have hdk := w_rdesk k0 r (by simp only [List.length_cons] at hlen; omega) (fun y hy => by have := hmem y (List.mem_cons_of_mem _ hy); omega) A6 c6 w2.drew hr6 ⟨hD2.1, hD2.2⟩
            cases hE : deskE k0 r with
            | ok t =>
              rw [hE] at hdk Hsn
              unfold RfOut at hdk
              simp only at hdk
              first | go_region_with (go_at_call 9; refine Calls.mono hdk ?_; rintro e w3 ⟨rfl, hb3⟩) | fail
              all_goals
                have hB5 := hB2.drew.trans (hb3.mono hB2.size)
                have hown5 := hown2.drew.below hb3 (Nat.le_refl _)
                have Hsn2 := Lib.hid (show (l.take (k + 1)).map answD = (l.take k).map answD ++ [t] from Hsn.out)
                go_wp2_with (at_builtin; refine wpList_app encS sl_strDk [_] rfl _ _ rfl rfl hown5 #[S _] rfl 0 rfl (by first | rfl | (simp [go_sem]; done)) (by omega) (by simp only [maxLen]; omega) hB5.size ?_; intro g' c'' w6 hown6 hg6 hb6 hbg)
                go_roundw
                case rel => exact ⟨k + 1, _, _, _, by go_num, by simp, by omega, by simp; omega, hown6, hB5.trans hb6, Lib.hid (by rw [Hsn2.out, ← Ho.out])⟩
                case measure => simp [intOf]; omega
            | error n =>
              have hn := deskE_in hE
              have hnI : (n == 0) = false := by simp; omega
              rw [hE] at hdk Hsn
              unfold RfOut at hdk
              simp only at hdk
              have hdg := fun W => w_Dig n (by omega) (by omega) W
              have hil := itL_len (n := n.toNat) (by omega)
              have Hsn2 := Lib.hid (show (l.take (k + 1)).map answD = (l.take k).map answD ++ [errT ++ itL n.toNat] from Hsn.out)
              have hdg2 : ∀ W, Calls Tryz.prog 10 #[.int .i64 n] W fun e w' => e = .returned (S (itL n.toNat)) ∧ Below W.heap.size W w' := hdg
              clear hdg hE
              generalize itL n.toNat = I at *
              first | go_region_with (go_at_call 9; refine Calls.mono hdk ?_; rintro e w3 ⟨⟨a, rfl⟩, hb3⟩) | fail
              all_goals
                have hB4 := hB2.drew.trans (hb3.mono hB2.size)
                have hown4 := hown2.drew.below hb3 (Nat.le_refl _)
                go_wp2_with (first
                  | (go_at_call 10; refine (hdg2 _).mono ?_; rintro e w5 ⟨rfl, hb5⟩; have hB5 := hB4.trans (hb5.mono hB4.size); have hown5 := hown4.below hb5 (Nat.le_refl _))
                  | (at_builtin; refine wpList_app encS sl_strDk [_] rfl _ _ rfl rfl hown5 #[S _] rfl 0 rfl (by first | rfl | (simp [go_sem]; done)) (by omega) (by simp only [maxLen]; omega) hB5.size ?_; intro g' c'' w6 hown6 hg6 hb6 hbg))
                go_roundw
                case rel => exact ⟨k + 1, _, _, _, by go_num, by simp, by omega, by simp; omega, hown6, hB5.trans hb6, Lib.hid (by rw [Hsn2.out, ← Ho.out]; rfl)⟩
                case measure => simp [intOf]; omega
          · obtain rfl : k = l.length := by omega
            have Hq2 := Lib.hid (show R = .ok out from by rw [Hq.out, Ho.out, List.take_length])
            clear Hq Ho
            go_wp2_with fail
            go_ret2
            rw [Hq2.out]
            exact ⟨A2, c2, rfl, hown, hbel⟩
      · have Hq := Lib.hid (show R = .error 2 from by rw [← HR.out, hbl]; rfl)
        clear HR Hb hbl
        go_wp2_with fail
        go_ret2
        rw [Hq.out]
        exact ⟨rfl, Below.refl _ _⟩
end Go.Proofs.YtemjoiaapfhenaaGreatDoor
end
