/- Walk: the reference's Params. -/
import Derived.Test.YtiaboojdplcaoaaWParP
namespace Go.Proofs.Ytiaboojdplcaoaa
open Go.RowKit Go.Larder
set_option linter.unusedVariables false
set_option linter.unusedSimpArgs false

theorem parAt_name {t : List UInt8} {j : Nat} (hix : Lib.indexByte t 61 = (j : Int)) (h : isTok (t.take j) = false) : parR t = none := by rw [parR_at hix]; unfold parAt; rw [if_neg (by simp [h])]
theorem parAt_tok {t : List UInt8} {j : Nat} (hix : Lib.indexByte t 61 = (j : Int)) (h : isTok (t.take j) = true) (ha : isTok (t.drop (j + 1)) = true) : parR t = some (lowL (t.take j), t.drop (j + 1)) := by rw [parR_at hix]; unfold parAt; rw [if_pos h, if_pos ha]
theorem parAt_unq {t : List UInt8} {j : Nat} (hix : Lib.indexByte t 61 = (j : Int)) (h : isTok (t.take j) = true) (ha : isTok (t.drop (j + 1)) = false) (hu : (unqAll (t.drop (j + 1))).2 = 0) : parR t = some (lowL (t.take j), (unqAll (t.drop (j + 1))).1) := by rw [parR_at hix]; unfold parAt; rw [if_pos h, if_neg (by simp [ha]), if_pos hu]
theorem parAt_bad {t : List UInt8} {j : Nat} (hix : Lib.indexByte t 61 = (j : Int)) (h : isTok (t.take j) = true) (ha : isTok (t.drop (j + 1)) = false) (hu : ¬ (unqAll (t.drop (j + 1))).2 = 0) : parR t = none := by rw [parR_at hix]; unfold parAt; rw [if_pos h, if_neg (by simp [ha]), if_neg hu]

set_option maxHeartbeats 4000000 in
set_option maxRecDepth 100000 in
theorem w_ParamsR (s : List UInt8) (hs : s.length ≤ 140737488351232) (w : World) :
    Calls Try.prog 29 #[S s] w (ParPost encF 45 w (parsE s)) := by
  obtain ⟨R, hR⟩ : ∃ R, R = parsE s := ⟨_, rfl⟩
  rw [← hR]
  have HR := Lib.hid hR
  clear hR
  by_cases hbig : 1000 < s.length
  · have HR2 := Lib.hid (show R = .error 2 from by rw [HR.out]; exact parsE_big hbig)
    go_enter Try.func29, Try.ntmps29
    go_wp2_with fail
    go_ret3
    rw [HR2.out]
    exact ⟨rfl, Below.refl _ _⟩
  · go_enter Try.func29, Try.ntmps29
    go_wp2_with fail
    refine (w_parts 59 s (by omega) _).mono ?_
    rintro e w1 hpost
    obtain ⟨AL, cL, rfl, hownL, hb1⟩ := hpost
    have hs1 := hb1.size
    have hE0 := cutE_parts 59 rfl rfl s
    have hne0 := partsR_ne 59 s false false [] []
    generalize partsR 59 s false false [] [] = r at hE0 hownL hne0 ⊢
    obtain ⟨L0, ok⟩ := r
    simp only at hownL hne0 ⊢
    have hneL : L0.map trim ≠ [] := by simpa using hne0
    cases ok with
    | false =>
      have hE : cutE 59 s = .error 3 := hE0
      have HR2 := Lib.hid (show R = .error 3 from by rw [HR.out]; exact parsE_err hbig hE)
      clear hE hE0
      go_wp2_with fail
      go_ret3
      rw [HR2.out]
      exact ⟨rfl, hb1⟩
    | true =>
      have hE : cutE 59 s = .ok (L0.map trim) := hE0
      clear hE0
      generalize L0.map trim = L at hE hownL hneL ⊢
      rcases L with _ | ⟨x, l⟩
      · exact absurd rfl hneL
      have htx := cutE_text rfl rfl hE
      have hln := cutE_len 59 s _ hE
      simp only [List.length_cons] at hln
      have hcap := hownL.le_cap
      simp only [List.length_cons] at hcap ⊢
      have Hread := Lib.hid (hownL.read)
      obtain ⟨b, off, rfl, hbb, _⟩ := hownL.read (by simp)
      clear hownL
      have hx0 := head_at Hread.out
      have hc1 : 1 ≤ cL := by omega
      have hl1 : 1 ≤ l.length + 1 := by omega
      cases hxe : (x == [])
      · by_cases hcl : cL = 1
        · have hl0 : l = [] := List.eq_nil_of_length_eq_zero (by omega)
          subst hl0
          subst hcl
          have HR2 := Lib.hid (show R = .ok (x, []) from by rw [HR.out]; exact parsE_ok hbig hE hxe rfl (by simp))
          go_wp2_with fail
          go_loop [7, 33] (fun o i' => i' = .int .i64 0 ∧ o = .slice none 0 0) (fun _ _ => 0)
          case atStart => exact ⟨rfl, rfl⟩
          case round =>
            obtain ⟨rfl, rfl⟩ := hrel
            go_wp2_with fail
            go_ret3
            rw [HR2.out]
            exact ⟨none, 0, rfl, OwnL.nil _ _ _, hb1⟩
        · have hcl2 : (1 = cL) = False := by simp; omega
          have hcl3 : ¬ cL = 1 := hcl
          go_wp2_with fail
          go_loopw [7, 33] (fun o i' wr => ∃ (k : Nat) (acc : List Par) (A : Option Addr) (c : Nat), i' = .int .i64 k ∧ o = .slice A acc.length c ∧ k ≤ l.length ∧ acc.length ≤ k ∧
              OwnL encF wr w1.heap.size 45 A c acc ∧ Below w1.heap.size w1 wr ∧ parsGo (l.drop k) acc = parsGo l []) (fun _ i' _ => l.length - (intOf i').toNat)
          case atStart => exact ⟨0, [], none, 0, rfl, rfl, by omega, by simp, OwnL.nil _ _ _, Below.refl _ _, rfl⟩
          case round =>
            obtain ⟨k, acc, A, c, rfl, rfl, hk, hak, hown, hbel, heq⟩ := hrel
            have hbs := hbel.size
            have hbW : Below w.heap.size w wr := hb1.trans (hbel.mono hs1)
            have hxr : wr.cell? ⟨b, off, none⟩ = some (S x) := head_at (Hread.out.below hbel (Nat.le_refl _))
            by_cases hlt : k < l.length
            · obtain ⟨t, hx, hst⟩ := drop_step hlt
              have htl := htx t (List.mem_cons_of_mem _ (List.mem_of_getElem? hx))
              have hcell := tail_at (Hread.out.below hbel (Nat.le_refl _)) hx
              have hb9 : b < wr.heap.size := by omega
              rw [hst] at heq
              have hLa : t.length ≤ 140737488351232 := by omega
              cases hte : (t == [])
              · rcases ixb t 61 with hix | ⟨j, hix, hj⟩
                · have hpn : parR t = none := parR_no hix
                  rw [parsGo_none hte hpn] at heq
                  have HR2 := Lib.hid (show R = .error 3 from by rw [HR.out]; exact parsE_none hbig hE hxe heq.symm)
                  clear heq hst hx hpn
                  go_wp2_with (first
                    | (go_at_call 70; refine (w_Index1 t 61 _).mono ?_; rintro e w' ⟨rfl, rfl⟩))
                  go_ret3
                  rw [HR2.out]
                  exact ⟨rfl, by go_grown⟩
                · have hLb : (t.take j).length ≤ 140737488351232 := by rw [List.length_take]; omega
                  have hLc : (t.drop (j + 1)).length ≤ 140737488351232 := by rw [List.length_drop]; omega
                  have hLd := hLa
                  have e1 : (t.drop (j + 1)).take (t.length - (j + 1)) = t.drop (j + 1) := by rw [List.take_of_length_le]; simp
                  have v1 : IntKind.i64.wrap ((j : Int) + 1) = (j : Int) + 1 := IntWalk.i64_in _ ⟨by omega, by omega⟩
                  have v2 : (0 : Int) ≤ (j : Int) + 1 := by omega
                  have v3 : (j : Int) + 1 ≤ (t.length : Int) := by omega
                  have v4 : ((j : Int) + 1).toNat = j + 1 := by omega
                  have v5 : (0 : Int) ≤ (j : Int) := by omega
                  have v6 : (j : Int) ≤ (t.length : Int) := by omega
                  have v7 : ¬ (j : Int) < 0 := by omega
                  cases htk : isTok (t.take j)
                  · have hpn : parR t = none := parAt_name hix htk
                    rw [parsGo_none hte hpn] at heq
                    have HR2 := Lib.hid (show R = .error 3 from by rw [HR.out]; exact parsE_none hbig hE hxe heq.symm)
                    clear heq hst hx hpn
                    go_wp2_with (first
                    | (go_at_call 70; refine (w_Index1 t 61 _).mono ?_; rintro e w' ⟨rfl, rfl⟩)
                    | (go_at_call 13; refine (w_TokenR _ (by first | exact hLa | exact hLb | exact hLc | exact hLd) _).mono ?_; rintro e w' ⟨rfl, rfl⟩))
                    go_ret3
                    rw [HR2.out]
                    exact ⟨rfl, by go_grown⟩
                  · cases ha : isTok (t.drop (j + 1))
                    · by_cases hu : (unqAll (t.drop (j + 1))).2 = 0
                      · have hpn := parAt_unq hix htk ha hu
                        rw [parsGo_some hte hpn] at heq
                        have Heq := Lib.hid heq
                        clear heq hst hx hpn
                        go_wp2_with (first
                    | (go_at_call 70; refine (w_Index1 t 61 _).mono ?_; rintro e w' ⟨rfl, rfl⟩)
                    | (go_at_call 13; refine (w_TokenR _ (by first | exact hLa | exact hLb | exact hLc | exact hLd) _).mono ?_; rintro e w' ⟨rfl, rfl⟩)
                    | (go_at_call 71; refine (w_UnqAR _ (by first | exact hLa | exact hLb | exact hLc | exact hLd) _).mono ?_; rintro e w' ⟨rfl, rfl⟩)
                    | (go_at_call 15; refine (w_LowerR _ (by first | exact hLa | exact hLb | exact hLc | exact hLd) _).mono ?_; rintro e w' ⟨rfl, rfl⟩)
                    | (at_builtin; refine wpList_app encF sl_par [(lowL (t.take j), (unqAll (t.drop (j + 1))).1)] rfl _ _ rfl rfl (OwnL.below hown (by show Below wr.heap.size wr _; go_grown) (Nat.le_refl _)) #[S (lowL (t.take j)), S ((unqAll (t.drop (j + 1))).1)] rfl 0 rfl (by first | rfl | (simp [go_sem]; done)) (by omega) (by simp only [maxLen]; omega) (by first | omega | (simp; omega) | go_size) ?_; intro g' c'' w4 hown4 hg4 hb4 hbg))
                        go_roundw
                        case rel => exact ⟨k + 1, acc ++ [(lowL (t.take j), (unqAll (t.drop (j + 1))).1)], some ⟨g', 0, none⟩, c'', by go_num, by simp, by omega, by simp; omega, hown4, Below.trans (by go_grown) hb4, Heq.out⟩
                        case measure => simp [intOf]; omega
                      · have hpn : parR t = none := parAt_bad hix htk ha hu
                        rw [parsGo_none hte hpn] at heq
                        have HR2 := Lib.hid (show R = .error 3 from by rw [HR.out]; exact parsE_none hbig hE hxe heq.symm)
                        clear heq hst hx hpn
                        have hu2 : ((unqAll (t.drop (j + 1))).2 == 0) = false := by simpa using hu
                        go_wp2_with (first
                    | (go_at_call 70; refine (w_Index1 t 61 _).mono ?_; rintro e w' ⟨rfl, rfl⟩)
                    | (go_at_call 13; refine (w_TokenR _ (by first | exact hLa | exact hLb | exact hLc | exact hLd) _).mono ?_; rintro e w' ⟨rfl, rfl⟩)
                    | (go_at_call 71; refine (w_UnqAR _ (by first | exact hLa | exact hLb | exact hLc | exact hLd) _).mono ?_; rintro e w' ⟨rfl, rfl⟩))
                        go_ret3
                        rw [HR2.out]
                        exact ⟨rfl, by go_grown⟩
                    · have hpn := parAt_tok hix htk ha
                      rw [parsGo_some hte hpn] at heq
                      have Heq := Lib.hid heq
                      clear heq hst hx hpn
                      go_wp2_with (first
                    | (go_at_call 70; refine (w_Index1 t 61 _).mono ?_; rintro e w' ⟨rfl, rfl⟩)
                    | (go_at_call 13; refine (w_TokenR _ (by first | exact hLa | exact hLb | exact hLc | exact hLd) _).mono ?_; rintro e w' ⟨rfl, rfl⟩)
                    | (go_at_call 71; refine (w_UnqAR _ (by first | exact hLa | exact hLb | exact hLc | exact hLd) _).mono ?_; rintro e w' ⟨rfl, rfl⟩)
                    | (go_at_call 15; refine (w_LowerR _ (by first | exact hLa | exact hLb | exact hLc | exact hLd) _).mono ?_; rintro e w' ⟨rfl, rfl⟩)
                    | (at_builtin; refine wpList_app encF sl_par [(lowL (t.take j), t.drop (j + 1))] rfl _ _ rfl rfl (OwnL.below hown (by show Below wr.heap.size wr _; go_grown) (Nat.le_refl _)) #[S (lowL (t.take j)), S (t.drop (j + 1))] rfl 0 rfl (by first | rfl | (simp [go_sem]; done)) (by omega) (by simp only [maxLen]; omega) (by first | omega | (simp; omega) | go_size) ?_; intro g' c'' w4 hown4 hg4 hb4 hbg))
                      go_roundw
                      case rel => exact ⟨k + 1, acc ++ [(lowL (t.take j), t.drop (j + 1))], some ⟨g', 0, none⟩, c'', by go_num, by simp, by omega, by simp; omega, hown4, Below.trans (by go_grown) hb4, Heq.out⟩
                      case measure => simp [intOf]; omega
              · rw [parsGo_skip hte] at heq
                have Heq := Lib.hid heq
                clear heq hst hx
                have ht0 : t = [] := by simpa using hte
                subst ht0
                go_wp2_with (go_at_call 70; refine (w_Index1 [] 61 _).mono ?_; rintro e w' ⟨rfl, rfl⟩)
                go_roundw
                case rel => exact ⟨k + 1, acc, A, c, by go_num, rfl, by omega, by omega, hown, hbel, Heq.out⟩
                case measure => simp [intOf]; omega
            · rw [drop_end hlt, parsGo_nil] at heq
              by_cases h20 : 20 < acc.length
              · have HR2 := Lib.hid (show R = .error 2 from by rw [HR.out]; exact parsE_many hbig hE hxe heq.symm h20)
                clear heq
                go_wp2_with fail
                go_ret3
                rw [HR2.out]
                exact ⟨rfl, hbW⟩
              · have HR2 := Lib.hid (show R = .ok (x, acc) from by rw [HR.out]; exact parsE_ok hbig hE hxe heq.symm h20)
                clear heq
                go_wp2_with fail
                go_ret3
                rw [HR2.out]
                exact ⟨A, c, rfl, hown.base_le hs1, hbW⟩
      · have HR2 := Lib.hid (show R = .error 3 from by rw [HR.out]; exact parsE_first hbig hE hxe)
        go_wp2_with fail
        go_ret3
        rw [HR2.out]
        exact ⟨rfl, hb1⟩
end Go.Proofs.Ytiaboojdplcaoaa
