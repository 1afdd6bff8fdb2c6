/- Walks through the references' first functions: plain, Unquote. -/
import Derived.Test.YtmhhjmncbclihaaChecked
import Derived.Test.YtmhhjmncbclihaaSpecs
import Derived.Test.YtmhhjmncbclihaaWRef0
namespace Go.Proofs.Ytmhhjmncbclihaa
open Go.RowKit Go.Larder
set_option linter.unusedVariables false
set_option linter.unusedSimpArgs false

theorem w_plainR (l : List UInt8) (hl : l.length ≤ 140737488351232) (w : World) :
    Calls Try.prog 157 #[S l] w fun e w' => e = .returned (.bool (l.all isPl)) ∧ w = w' := by
  go_enter Try.func157, Try.ntmps157
  go_wp2_with fail
  go_loop [6] (fun v => ∃ k : Nat, v = .int .i64 k ∧ k ≤ l.length ∧ (l.drop k).all isPl = l.all isPl) (fun v => l.length - (intOf v).toNat)
  case atStart => exact ⟨0, rfl, by omega, rfl⟩
  case round =>
    obtain ⟨k, rfl, hk, hd⟩ := hrel
    have Hd := Lib.hid hd; clear hd
    by_cases hlt : k < l.length
    · obtain ⟨x, hx, hs⟩ := drop_step hlt
      have hg : ∀ h, l[k]'h = x := fun h => by rw [List.getElem?_eq_getElem h] at hx; exact Option.some.inj hx
      have Hs := Lib.hid hs; clear hs hx
      cases h9 : ((x.toNat : Int) == 9)
      · by_cases h1 : (x.toNat : Int) < 32
        · have Hp := Lib.hid (show isPl x = false from by simp at h9; simp [isPl, h9]; omega)
          go_wp2_with (go_at_call 48; refine (w_outside _ _ _ _).mono ?_; rintro e w' ⟨rfl, rfl⟩)
          go_ret
          exact ⟨ret_bool (by rw [← Hd.out, Hs.out]; simp [Hp.out]), rfl⟩
        · by_cases h2 : 126 < (x.toNat : Int)
          · have Hp := Lib.hid (show isPl x = false from by simp at h9; simp [isPl, h9]; omega)
            go_wp2_with (go_at_call 48; refine (w_outside _ _ _ _).mono ?_; rintro e w' ⟨rfl, rfl⟩)
            go_ret
            exact ⟨ret_bool (by rw [← Hd.out, Hs.out]; simp [Hp.out]), rfl⟩
          · have Hp := Lib.hid (show isPl x = true from by simp [isPl]; omega)
            go_wp2_with (go_at_call 48; refine (w_outside _ _ _ _).mono ?_; rintro e w' ⟨rfl, rfl⟩)
            go_round
            case rel => exact ⟨k + 1, by go_num, by omega, by rw [← Hd.out, Hs.out]; simp [Hp.out]⟩
            case measure => simp [intOf]; omega
      · have Hp := Lib.hid (show isPl x = true from by simp [isPl, h9])
        go_wp2_with fail
        go_round
        case rel => exact ⟨k + 1, by go_num, by omega, by rw [← Hd.out, Hs.out]; simp [Hp.out]⟩
        case measure => simp [intOf]; omega
    · go_wp2_with fail
      go_ret
      exact ⟨ret_bool (by rw [← Hd.out, drop_end hlt]; rfl), rfl⟩

theorem w_UnquoteR (a : UInt8) (m : List UInt8) (b : UInt8) (hl : m.length + 2 ≤ 140737488351232) (w : World) :
    Calls Try.prog 136 #[S (a :: (m ++ [b]))] w fun e w' => e = .returned (.tuple #[S (unqMidR a m b).1, .int .i64 (unqMidR a m b).2]) ∧ w = w' := by
  have htk : (a :: (m ++ [b])).take 1 = [a] := rfl
  have hdr : (a :: (m ++ [b])).drop (m.length + 1) = [b] := by simp
  cases ha : isQ a
  · have ha' : ([a] == [(34 : UInt8)]) = false := by rw [sing_q]; exact ha
    have Hu := Lib.hid (show unqMidR a m b = ([], 3) from by simp [unqMidR, ha])
    go_enter Try.func136, Try.ntmps136
    go_wp2_with (go_at_call 157; refine (w_plainR _ (by simp; omega) _).mono ?_; rintro e w' ⟨rfl, rfl⟩)
    go_ret2
    rw [Hu.out]
    exact ⟨rfl, rfl⟩
  · have ha' : ([a] == [(34 : UInt8)]) = true := by rw [sing_q]; exact ha
    cases hb : isQ b
    · have hb' : ([b] == [(34 : UInt8)]) = false := by rw [sing_q]; exact hb
      have Hu := Lib.hid (show unqMidR a m b = ([], 3) from by simp [unqMidR, hb])
      go_enter Try.func136, Try.ntmps136
      go_wp2_with (go_at_call 157; refine (w_plainR _ (by simp; omega) _).mono ?_; rintro e w' ⟨rfl, rfl⟩)
      go_ret2
      rw [Hu.out]
      exact ⟨rfl, rfl⟩
    · have hb' : ([b] == [(34 : UInt8)]) = true := by rw [sing_q]; exact hb
      cases hp : (a :: (m ++ [b])).all isPl
      · have Hu := Lib.hid (show unqMidR a m b = ([], 3) from by simp [unqMidR, hp])
        go_enter Try.func136, Try.ntmps136
        go_wp2_with (go_at_call 157; refine (w_plainR _ (by simp; omega) _).mono ?_; rintro e w' ⟨rfl, rfl⟩)
        go_ret2
        rw [Hu.out]
        exact ⟨rfl, rfl⟩
      · have Hu := Lib.hid (show unqMidR a m b = unqEnd (unqR m false []) from by simp only [unqMidR, ha, hb, hp, Bool.and_true, if_true])
        go_enter Try.func136, Try.ntmps136
        go_wp2_with (go_at_call 157; refine (w_plainR _ (by simp; omega) _).mono ?_; rintro e w' ⟨rfl, rfl⟩)
        clear ha hb ha' hb' hdr htk hp
        generalize hT : m ++ [b] = t
        have hl1 : t.length ≤ m.length + 1 := by rw [← hT]; simp
        have hl2 : m.length + 1 ≤ t.length := by rw [← hT]; simp
        have HT := Lib.hid hT; clear hT
        go_loop [4, 5, 6] (fun o q i => ∃ (k : Nat) (acc : List UInt8) (c : Bool), o = S acc ∧ q = .bool c ∧ i = .int .i64 ((k : Int) + 1) ∧ k ≤ m.length ∧ acc.length ≤ k ∧ unqR (m.drop k) c acc = unqR m false [])
          (fun _ _ i => m.length + 1 - (intOf i).toNat)
        case atStart => exact ⟨0, [], false, rfl, rfl, by go_num, by omega, by simp, rfl⟩
        case round =>
          obtain ⟨k, acc, c, rfl, rfl, rfl, hk, hacc, heq⟩ := hrel
          have Heq := Lib.hid heq; clear heq
          by_cases hlt : k < m.length
          · obtain ⟨x, hx, hs⟩ := drop_step hlt
            have hgm : t[k]? = some x := by rw [← HT.out, List.getElem?_append_left hlt]; exact hx
            have hg : ∀ h, t[k]'h = x := fun h => by rw [List.getElem?_eq_getElem h] at hgm; exact Option.some.inj hgm
            have hs1 : List.take 1 (List.drop k t) = [x] := by
              rw [List.drop_eq_getElem_cons (show k < t.length by omega), hg]; rfl
            have Hs := Lib.hid hs; clear hs hx hgm
            cases c
            · cases hbs : isBS x
              · have hbs' : ((x.toNat : Int) == 92) = false := hbs
                cases hq : isQ x
                · have hq' : ((x.toNat : Int) == 34) = false := hq
                  have Heq2 := Lib.hid (show unqR (m.drop (k + 1)) false (acc ++ [x]) = unqR m false [] from by rw [← Heq.out, Hs.out]; simp [unqR, hbs, hq])
                  go_wp2_with fail
                  go_round
                  case rel => exact ⟨k + 1, acc ++ [x], false, rfl, rfl, by go_num, by omega, by (first | omega | (simp; omega)), Heq2.out⟩
                  case measure => simp [intOf]; omega
                · have hq' : ((x.toNat : Int) == 34) = true := hq
                  have Hu2 : unqMidR a m b = ([], 3) := by rw [Hu.out, ← Heq.out, Hs.out]; simp [unqR, hbs, hq, unqEnd]
                  have Hu := Lib.hid Hu2; clear Hu2
                  go_wp2_with fail
                  go_ret2
                  rw [Hu.out]
                  exact ⟨rfl, rfl⟩
              · have hbs' : ((x.toNat : Int) == 92) = true := hbs
                have Heq2 := Lib.hid (show unqR (m.drop (k + 1)) true acc = unqR m false [] from by rw [← Heq.out, Hs.out]; simp [unqR, hbs])
                go_wp2_with fail
                go_round
                case rel => exact ⟨k + 1, acc, true, rfl, rfl, by go_num, by omega, by (first | omega | (simp; omega)), Heq2.out⟩
                case measure => simp [intOf]; omega
            · have Heq2 := Lib.hid (show unqR (m.drop (k + 1)) false (acc ++ [x]) = unqR m false [] from by rw [← Heq.out, Hs.out]; simp [unqR])
              go_wp2_with fail
              go_round
              case rel => exact ⟨k + 1, acc ++ [x], false, rfl, rfl, by go_num, by omega, by (first | omega | (simp; omega)), Heq2.out⟩
              case measure => simp [intOf]; omega
          · have Hd := Lib.hid (drop_end hlt)
            cases c
            · have Hu2 : unqMidR a m b = unqEnd (some acc) := by rw [Hu.out, ← Heq.out, Hd.out]; rfl
              have Hu := Lib.hid Hu2; clear Hu2
              by_cases hbig : 1000 < (acc.length : Int)
              · go_wp2_with fail
                go_ret2
                rw [Hu.out]
                exact ⟨by simp [unqEnd, show 1000 < acc.length by omega], rfl⟩
              · go_wp2_with fail
                go_ret2
                rw [Hu.out]
                exact ⟨by simp [unqEnd, show ¬ 1000 < acc.length by omega], rfl⟩
            · have Hu2 : unqMidR a m b = ([], 3) := by rw [Hu.out, ← Heq.out, Hd.out]; rfl
              have Hu := Lib.hid Hu2; clear Hu2
              go_wp2_with fail
              go_ret2
              rw [Hu.out]
              exact ⟨rfl, rfl⟩

theorem w_UnquoteR_short (l : List UInt8) (hl : l.length < 2) (w : World) :
    Calls Try.prog 136 #[S l] w fun e w' => e = .returned (.tuple #[S [], .int .i64 3]) ∧ w = w' := by
  go_enter Try.func136, Try.ntmps136
  go_wp2_with fail
  go_ret2
  exact ⟨rfl, rfl⟩
end Go.Proofs.Ytmhhjmncbclihaa
