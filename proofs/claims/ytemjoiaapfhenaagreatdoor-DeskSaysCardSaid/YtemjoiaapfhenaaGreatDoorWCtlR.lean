/- Walk: the reference's ControlParse. -/
import Derived.Test.YtemjoiaapfhenaaGreatDoorGd10
import Derived.Deep.RegionWith
namespace Go.Proofs.YtemjoiaapfhenaaGreatDoor
open Go.RowKit Go.Larder
set_option linter.unusedVariables false
set_option linter.unusedSimpArgs false

set_option maxHeartbeats 8000000 in
set_option maxRecDepth 100000 in
theorem w_CtlParseR (s : List UInt8) (hs : s.length ≤ 140737488351232) (w : World) :
    Calls Tryz.prog 27 #[S s] w (SlPost encD 95 w (ctlE s)) := by
  obtain ⟨R, hR⟩ : ∃ R, R = ctlE s := ⟨_, rfl⟩
  rw [← hR]
  have HR := Lib.hid hR
  clear hR
  cases hsp : splitE s with
  | error n =>
    have hn : n ≠ 0 := splitE_ne hsp
    have hn2 : (n == 0) = false := by simpa using hn
    have HR2 := Lib.hid (show R = .error n from by rw [HR.out]; exact ctlE_err hsp)
    go_enter Tryz.func27, Tryz.ntmps27
    go_wp2_with fail
    refine (wt_SplitR s hs _).mono ?_
    intro e w1 hp1
    obtain ⟨rfl, hb1⟩ := hp1.err hsp
    go_wp2_with fail
    go_ret2
    rw [HR2.out]
    exact ⟨rfl, hb1⟩
  | ok l =>
    have hl20 := splitE_ok hsp
    have htx := splitE_text hsp
    go_enter Tryz.func27, Tryz.ntmps27
    go_wp2_with fail
    refine (wt_SplitR s hs _).mono ?_
    intro e w1 hp1
    obtain ⟨AL, cL, rfl, hownL, hb1⟩ := hp1.ok_ hsp
    have hs1 := hb1.size
    have Hread := Lib.hid (hownL.read)
    clear hownL
    go_wp2_with fail
    go_loopw [5, 6, 21] (fun e' o i' wr => ∃ (k : Nat) (acc : List Dir) (A : Option Addr) (c : Nat), e' = .int .i64 0 ∧ i' = .int .i64 k ∧ o = .slice A acc.length c ∧ k ≤ l.length ∧ acc.length ≤ k ∧
          OwnL encD wr w1.heap.size 95 A c acc ∧ Below w1.heap.size w1 wr ∧ dirsGo (l.drop k) acc = dirsGo l []) (fun _ _ i' _ => l.length - (intOf i').toNat)
    case atStart => exact ⟨0, [], none, 0, rfl, rfl, rfl, by omega, by simp, OwnL.nil _ _ _, Below.refl _ _, rfl⟩
    case round =>
      obtain ⟨k, acc, A, c, rfl, rfl, rfl, hk, hak, hown, hbel, heq⟩ := hrel
      have hbs := hbel.size
      have hbW : Below w.heap.size w wr := hb1.trans (hbel.mono hs1)
      by_cases hlt : k < l.length
      · obtain ⟨t, hx, hst⟩ := drop_step hlt
        have htl := htx t (List.mem_of_getElem? hx)
        obtain ⟨b, off, rfl, hbb, hcell⟩ := (Hread.out.below hbel (Nat.le_refl _)).at_S hx
        rw [hst, dirsGo] at heq
        have hLa : t.length ≤ 140737488351232 := by omega
        rcases ixb t 61 with hix | ⟨j, hix, hj⟩
        · have hLb : (lowL t).length ≤ 140737488351232 := by rw [lowL_len]; exact hLa
          have hLc := hLa
          have hLd := hLa
          have hlowt := isTok_low t
          have hdq := dirR_no hix
          rw [hdq] at heq
          simp only at heq
          cases htk : isTok t
          · rw [htk] at heq hlowt
            rw [if_neg (by simp)] at heq
            have HR2 := Lib.hid (show R = .error 3 from by rw [HR.out]; exact ctlE_none hsp heq.symm)
            clear heq hst hx hdq
            go_wp2_with (first
            | (go_at_call 89; refine (w_TokenR _ (by first | exact hLa | exact hLb | exact hLc | exact hLd) _).mono ?_; rintro e w' ⟨rfl, rfl⟩)
            | (go_at_call 88; refine (w_LowerR _ (by first | exact hLa | exact hLb | exact hLc | exact hLd) _).mono ?_; rintro e w' ⟨rfl, rfl⟩)
            | (go_at_call 71; refine (w_Index1 t 61 _).mono ?_; rintro e w' ⟨rfl, rfl⟩))
            go_ret2
            rw [HR2.out]
            exact ⟨rfl, by go_grown⟩
          · rw [htk] at heq hlowt
            rw [if_pos rfl] at heq
            have Heq := Lib.hid heq; clear heq hst hx hdq
            go_wp2_with (first
            | (go_at_call 89; refine (w_TokenR _ (by first | exact hLa | exact hLb | exact hLc | exact hLd) _).mono ?_; rintro e w' ⟨rfl, rfl⟩)
            | (go_at_call 88; refine (w_LowerR _ (by first | exact hLa | exact hLb | exact hLc | exact hLd) _).mono ?_; rintro e w' ⟨rfl, rfl⟩)
            | (go_at_call 71; refine (w_Index1 t 61 _).mono ?_; rintro e w' ⟨rfl, rfl⟩)
            | (at_builtin; refine wpList_app encD sl_dir [(lowL t, false, [])] rfl _ _ rfl rfl (OwnL.below hown (by show Below wr.heap.size wr _; go_grown) (Nat.le_refl _)) #[S (lowL t), .bool false, S ([])] rfl 0 rfl (by first | rfl | (simp [go_sem]; done)) (by omega) (by simp only [maxLen]; omega) (by first | (simp; omega) | go_size) ?_; intro g' c'' w3 hown3 hg3 hb3 hbg))
            go_roundw
            case rel => exact ⟨k + 1, acc ++ [(lowL t, false, [])], some ⟨g', 0, none⟩, c'', by first | rfl | (simp [*]; done), by go_num, by simp, by omega, by simp; omega, hown3, Below.trans (by go_grown) hb3, Heq.out⟩
            case measure => simp [intOf]; omega
        · have hLb : (t.take j).length ≤ 140737488351232 := by rw [List.length_take]; omega
          have hLc : (t.drop (j + 1)).length ≤ 140737488351232 := by rw [List.length_drop]; omega
          have hLd : (lowL (t.take j)).length ≤ 140737488351232 := by rw [lowL_len]; exact hLb
          have hlowt := isTok_low (t.take j)
          have hj1 : j ≤ t.length := by omega
          have hj2 : j + 1 ≤ t.length := by omega
          have e1 : (t.drop (j + 1)).take (t.length - (j + 1)) = t.drop (j + 1) := by rw [List.take_of_length_le]; simp
          have v1 : IntKind.i64.wrap ((j : Int) + 1) = (j : Int) + 1 := IntWalk.i64_in _ ⟨by omega, by omega⟩
          have v2 : (0 : Int) ≤ (j : Int) + 1 := by omega
          have v3 : (j : Int) + 1 ≤ (t.length : Int) := by omega
          have v4 : ((j : Int) + 1).toNat = j + 1 := by omega
          have v5 : (0 : Int) ≤ (j : Int) := by omega
          have v6 : (j : Int) ≤ (t.length : Int) := by omega
          have hdq := dirR_at hix
          rw [hdq] at heq
          cases ha : isTok (t.drop (j + 1))
          · by_cases hu : (unqAll (t.drop (j + 1))).2 = 0
            · have hd3 : dirAt t j = ((lowL (t.take j), true, (unqAll (t.drop (j + 1))).1), isTok (t.take j)) := by unfold dirAt; rw [if_neg (by simp [ha]), if_pos hu]
              rw [hd3] at heq
              simp only at heq
              clear hd3
              cases htk : isTok (t.take j)
              · rw [htk] at heq hlowt
                rw [if_neg (by simp)] at heq
                have HR2 := Lib.hid (show R = .error 3 from by rw [HR.out]; exact ctlE_none hsp heq.symm)
                clear heq hst hx hdq
                go_wp2_with (first
            | (go_at_call 88; refine (w_LowerR _ (by first | exact hLa | exact hLb | exact hLc | exact hLd) _).mono ?_; rintro e w' ⟨rfl, rfl⟩)
            | (go_at_call 71; refine (w_Index1 t 61 _).mono ?_; rintro e w' ⟨rfl, rfl⟩))
                go_region_with (go_at_call 88; refine (w_LowerR _ (by first | exact hLa | exact hLb | exact hLc | exact hLd) _).mono ?_; rintro e w' ⟨rfl, rfl⟩)
                all_goals go_wp2_with (first
            | (go_at_call 89; refine (w_TokenR _ (by first | exact hLa | exact hLb | exact hLc | exact hLd) _).mono ?_; rintro e w' ⟨rfl, rfl⟩)
            | (go_at_call 19; refine (w_UnqAR _ (by first | exact hLa | exact hLb | exact hLc | exact hLd) _).mono ?_; rintro e w' ⟨rfl, rfl⟩))
                all_goals
                  go_ret2
                  rw [HR2.out]
                  exact ⟨rfl, by go_grown⟩
              · rw [htk] at heq hlowt
                rw [if_pos rfl] at heq
                have Heq := Lib.hid heq; clear heq hst hx hdq
                go_wp2_with (first
            | (go_at_call 88; refine (w_LowerR _ (by first | exact hLa | exact hLb | exact hLc | exact hLd) _).mono ?_; rintro e w' ⟨rfl, rfl⟩)
            | (go_at_call 71; refine (w_Index1 t 61 _).mono ?_; rintro e w' ⟨rfl, rfl⟩))
                go_region_with (go_at_call 88; refine (w_LowerR _ (by first | exact hLa | exact hLb | exact hLc | exact hLd) _).mono ?_; rintro e w' ⟨rfl, rfl⟩)
                all_goals go_wp2_with (first
            | (go_at_call 89; refine (w_TokenR _ (by first | exact hLa | exact hLb | exact hLc | exact hLd) _).mono ?_; rintro e w' ⟨rfl, rfl⟩)
            | (go_at_call 19; refine (w_UnqAR _ (by first | exact hLa | exact hLb | exact hLc | exact hLd) _).mono ?_; rintro e w' ⟨rfl, rfl⟩)
            | (at_builtin; refine wpList_app (w := (wr.alloc (.cells #[S (lowL (t.take j)), .bool true, S ((unqAll (t.drop (j + 1))).1)] 95)).drew) encD sl_dir [(lowL (t.take j), true, (unqAll (t.drop (j + 1))).1)] rfl _ _ rfl rfl (OwnL.below hown (by show Below wr.heap.size wr _; go_grown) (Nat.le_refl _)) #[S (lowL (t.take j)), .bool true, S ((unqAll (t.drop (j + 1))).1)] rfl 0 rfl (by first | rfl | (simp [go_sem]; done)) (by omega) (by simp only [maxLen]; omega) (by first | (simp; omega) | go_size) ?_; intro g' c'' w3 hown3 hg3 hb3 hbg))
                all_goals
                  go_roundw
                  case rel => exact ⟨k + 1, acc ++ [(lowL (t.take j), true, (unqAll (t.drop (j + 1))).1)], some ⟨g', 0, none⟩, c'', by first | rfl | (simp [*]; done), by go_num, by simp, by omega, by simp; omega, hown3, Below.trans (by go_grown) hb3, Heq.out⟩
                  case measure => simp [intOf]; omega
            · have hu2 : ((unqAll (t.drop (j + 1))).2 == 0) = false := by simpa using hu
              have hd3 : dirAt t j = ((lowL (t.take j), true, t.drop (j + 1)), false) := by unfold dirAt; rw [if_neg (by simp [ha]), if_neg hu]
              rw [hd3] at heq
              simp only at heq
              clear hd3
              rw [if_neg (by simp)] at heq
              have HR2 := Lib.hid (show R = .error 3 from by rw [HR.out]; exact ctlE_none hsp heq.symm)
              clear heq hst hx hdq
              go_wp2_with (first
            | (go_at_call 88; refine (w_LowerR _ (by first | exact hLa | exact hLb | exact hLc | exact hLd) _).mono ?_; rintro e w' ⟨rfl, rfl⟩)
            | (go_at_call 71; refine (w_Index1 t 61 _).mono ?_; rintro e w' ⟨rfl, rfl⟩))
              go_region_with (go_at_call 88; refine (w_LowerR _ (by first | exact hLa | exact hLb | exact hLc | exact hLd) _).mono ?_; rintro e w' ⟨rfl, rfl⟩)
              all_goals go_wp2_with (first
            | (go_at_call 89; refine (w_TokenR _ (by first | exact hLa | exact hLb | exact hLc | exact hLd) _).mono ?_; rintro e w' ⟨rfl, rfl⟩)
            | (go_at_call 19; refine (w_UnqAR _ (by first | exact hLa | exact hLb | exact hLc | exact hLd) _).mono ?_; rintro e w' ⟨rfl, rfl⟩))
              all_goals
                go_ret2
                rw [HR2.out]
                exact ⟨rfl, by go_grown⟩
          · have hd3 : dirAt t j = ((lowL (t.take j), true, t.drop (j + 1)), isTok (t.take j)) := by unfold dirAt; rw [if_pos ha]
            rw [hd3] at heq
            simp only at heq
            clear hd3
            cases htk : isTok (t.take j)
            · rw [htk] at heq hlowt
              rw [if_neg (by simp)] at heq
              have HR2 := Lib.hid (show R = .error 3 from by rw [HR.out]; exact ctlE_none hsp heq.symm)
              clear heq hst hx hdq
              go_wp2_with (first
            | (go_at_call 88; refine (w_LowerR _ (by first | exact hLa | exact hLb | exact hLc | exact hLd) _).mono ?_; rintro e w' ⟨rfl, rfl⟩)
            | (go_at_call 71; refine (w_Index1 t 61 _).mono ?_; rintro e w' ⟨rfl, rfl⟩))
              go_region_with (go_at_call 88; refine (w_LowerR _ (by first | exact hLa | exact hLb | exact hLc | exact hLd) _).mono ?_; rintro e w' ⟨rfl, rfl⟩)
              all_goals go_wp2_with (first
            | (go_at_call 89; refine (w_TokenR _ (by first | exact hLa | exact hLb | exact hLc | exact hLd) _).mono ?_; rintro e w' ⟨rfl, rfl⟩)
            | (go_at_call 19; refine (w_UnqAR _ (by first | exact hLa | exact hLb | exact hLc | exact hLd) _).mono ?_; rintro e w' ⟨rfl, rfl⟩))
              all_goals
                go_ret2
                rw [HR2.out]
                exact ⟨rfl, by go_grown⟩
            · rw [htk] at heq hlowt
              rw [if_pos rfl] at heq
              have Heq := Lib.hid heq; clear heq hst hx hdq
              go_wp2_with (first
            | (go_at_call 88; refine (w_LowerR _ (by first | exact hLa | exact hLb | exact hLc | exact hLd) _).mono ?_; rintro e w' ⟨rfl, rfl⟩)
            | (go_at_call 71; refine (w_Index1 t 61 _).mono ?_; rintro e w' ⟨rfl, rfl⟩))
              go_region_with (go_at_call 88; refine (w_LowerR _ (by first | exact hLa | exact hLb | exact hLc | exact hLd) _).mono ?_; rintro e w' ⟨rfl, rfl⟩)
              all_goals go_wp2_with (first
            | (go_at_call 89; refine (w_TokenR _ (by first | exact hLa | exact hLb | exact hLc | exact hLd) _).mono ?_; rintro e w' ⟨rfl, rfl⟩)
            | (go_at_call 19; refine (w_UnqAR _ (by first | exact hLa | exact hLb | exact hLc | exact hLd) _).mono ?_; rintro e w' ⟨rfl, rfl⟩)
            | (at_builtin; refine wpList_app (w := (wr.alloc (.cells #[S (lowL (t.take j)), .bool true, S (t.drop (j + 1))] 95)).drew) encD sl_dir [(lowL (t.take j), true, t.drop (j + 1))] rfl _ _ rfl rfl (OwnL.below hown (by show Below wr.heap.size wr _; go_grown) (Nat.le_refl _)) #[S (lowL (t.take j)), .bool true, S (t.drop (j + 1))] rfl 0 rfl (by first | rfl | (simp [go_sem]; done)) (by omega) (by simp only [maxLen]; omega) (by first | (simp; omega) | go_size) ?_; intro g' c'' w3 hown3 hg3 hb3 hbg))
              all_goals
                go_roundw
                case rel => exact ⟨k + 1, acc ++ [(lowL (t.take j), true, t.drop (j + 1))], some ⟨g', 0, none⟩, c'', by first | rfl | (simp [*]; done), by go_num, by simp, by omega, by simp; omega, hown3, Below.trans (by go_grown) hb3, Heq.out⟩
                case measure => simp [intOf]; omega
      · rw [drop_end hlt, dirsGo] at heq
        have HR2 := Lib.hid (show R = .ok acc from by rw [HR.out]; exact ctlE_some hsp heq.symm)
        clear heq
        go_wp2_with fail
        go_ret2
        rw [HR2.out]
        exact ⟨A, c, rfl, hown.base_le hs1, hbW⟩
end Go.Proofs.YtemjoiaapfhenaaGreatDoor
