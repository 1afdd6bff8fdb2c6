/- Walk: the reference's VaryNames. -/
import Derived.Test.YtmhhjmncbclihaaWVary
import Derived.Test.YtmhhjmncbclihaaWSrt
import Derived.Test.YtmhhjmncbclihaaWLowR
namespace Go.Proofs.Ytmhhjmncbclihaa
open Go.RowKit Go.Larder
set_option linter.unusedVariables false
set_option linter.unusedSimpArgs false
theorem w_HasT (x : List UInt8) (l : List (List UInt8)) (hl : l.length ≤ 140737488351232) (A : Option Addr) (c B : Nat) (w : World) (hr : ReadL encL w B A l) :
    Calls Try.prog 70 #[.slice A l.length c, S x] w (fun e w' => e = .returned (.bool (l.any fun y => x == y)) ∧ w = w') := by
  go_enter Try.func70, Try.ntmps70
  go_wp2_with fail
  go_loop [9] (fun i' => ∃ k : Nat, i' = .int .i64 k ∧ k ≤ l.length ∧ ((l.drop k).any fun y => x == y) = (l.any fun y => x == y)) (fun i' => l.length - (intOf i').toNat)
  case atStart => exact ⟨0, rfl, by omega, rfl⟩
  case round =>
    obtain ⟨k, rfl, hk, heq⟩ := hrel
    by_cases hlt : k < l.length
    · obtain ⟨y, hy, hs⟩ := drop_step hlt
      obtain ⟨g, off, rfl, hgb, hc0⟩ := hr.at_S hy
      rw [hs, List.any_cons] at heq
      clear hs hy
      cases hw : (x == y)
      · rw [hw] at heq
        have Heq := Lib.hid heq; clear heq
        go_wp2_with fail
        go_round
        case rel => exact ⟨k + 1, by go_num, by omega, by rw [← Heq.out]; simp⟩
        case measure => simp [intOf]; omega
      · rw [hw] at heq
        have Heq := Lib.hid heq; clear heq
        go_wp2_with fail
        go_ret
        exact ⟨by rw [← Heq.out]; rfl, rfl⟩
    · rw [drop_end hlt] at heq
      have Heq := Lib.hid heq; clear heq
      go_wp2_with fail
      go_ret
      exact ⟨by rw [← Heq.out]; rfl, rfl⟩
theorem addN_star {out : List (List UInt8)} {p : List UInt8} (h : (p == [42]) = true) : addN out p = out := by unfold addN; rw [h]; rfl
theorem addN_old {out : List (List UInt8)} {p : List UInt8} (h : (p == [42]) = false) (h2 : (out.any fun y => lowL p == y) = true) : addN out p = out := by unfold addN; rw [h, if_neg (by simp), if_pos h2]
theorem addN_new {out : List (List UInt8)} {p : List UInt8} (h : (p == [42]) = false) (h2 : (out.any fun y => lowL p == y) = false) : addN out p = out ++ [lowL p] := by unfold addN; rw [h, if_neg (by simp), if_neg (by simp [h2])]
set_option maxHeartbeats 4000000 in
theorem w_NamesR (l : List Fld) (hj : (l.map (fun f => f.1.length + f.2.length + 3)).sum ≤ 1048576) (A : Option Addr) (c : Nat) (w : World) (hr : ReadL encF w w.heap.size A l) :
    Calls Try.prog 41 #[.slice A l.length c] w (VyPost w (varyE (Lib.join (valsL (lowL varyN) l) sepL))) := by
  have hg := w_GetRS varyN (by decide) l hj A c w hr
  have hsl := join_ok (nm := lowL varyN) hj
  generalize Lib.join (valsL (lowL varyN) l) sepL = s at *
  generalize (valsL (lowL varyN) l).isEmpty = emp at *
  have hsp := fun W => wt_SplitR s (by omega) W
  obtain ⟨R, hR⟩ : ∃ R, varyE s = R := ⟨_, rfl⟩
  rw [hR]
  cases hs : splitE s with
  | error n =>
    have hn := splitE_pos hs
    rw [varyE_err hs] at hR
    have HR := Lib.hid hR.symm
    clear hR
    go_enter Try.func41, Try.ntmps41
    go_wp2_with fail
    refine hg.mono ?_
    rintro e w1 ⟨rfl, hb1⟩
    go_wp2_with fail
    refine (hsp _).mono ?_
    intro e w2 hp
    obtain ⟨rfl, hb2⟩ := hp.err hs
    clear hp hs
    go_wp2_with fail
    go_ret3
    exact vyPost_no HR.out (hb1.trans (hb2.mono hb1.size))
  | ok ps =>
    have hl20 := splitE_ok hs
    have htx := splitE_text hs
    have HR := Lib.hid hR
    have Hs := Lib.hid hs
    clear hR
    go_enter Try.func41, Try.ntmps41
    go_wp2_with fail
    refine hg.mono ?_
    rintro e w1 ⟨rfl, hb1⟩
    go_wp2_with fail
    refine (hsp _).mono ?_
    intro e w2 hp
    obtain ⟨A2, c2, rfl, hown, hb2⟩ := hp.ok_ hs
    have hr2 := hown.read
    have hB2 := hb1.trans (hb2.mono hb1.size)
    clear hp hs hsp hg hown
    go_wp2_with fail
    go_loopw [9, 10, 28] (fun s' o' i' wr => ∃ (k : Nat) (out : List (List UInt8)) (A : Option Addr) (c : Nat), i' = .int .i64 k ∧ s' = .bool ((ps.take k).any fun p => p == [42]) ∧ o' = .slice A out.length c ∧ k ≤ ps.length ∧ out.length ≤ k ∧ Hid (out = namesL (ps.take k)) ∧ Hid ((ps.take k).all isTok = true) ∧ OwnL encL wr w2.heap.size 9 A c out ∧ Below w2.heap.size w2 wr) (fun _ _ i' _ => ps.length - (intOf i').toNat)
    case atStart => exact ⟨0, [], none, 0, rfl, rfl, rfl, by omega, by simp, Lib.hid rfl, Lib.hid rfl, OwnL.nil _ _ _, Below.refl _ _⟩
    case round =>
      obtain ⟨k, out, A3, c3, rfl, rfl, rfl, hk, hok, hnm, hall, hown, hbel⟩ := hrel
      have hbs := hbel.size
      by_cases hlt : k < ps.length
      · obtain ⟨p, hx, hd⟩ := drop_step hlt
        obtain ⟨g, off, rfl, hgb, hc0⟩ := (hr2.below hbel (Nat.le_refl _)).at_S hx
        have hpl := htx p (List.mem_of_getElem? hx)
        have Hx := Lib.hid hx
        have hti := fun W => w_TokenR p (by omega) W
        have hlo := fun W => w_LowerR p (by omega) W
        have hstar := any_step (p := fun p : List UInt8 => p == [42]) hx
        have hns := names_step hx
        rw [← hnm.out] at hns
        clear hx hd
        generalize ((ps.take k).any fun p => p == [42]) = st0 at *
        cases htk : isTok p
        · rw [htk] at hti
          have HR2 := Lib.hid (show R = .error 3 from by rw [← HR.out]; exact varyE_bad Hs.out (allG_bad Hx.out htk))
          clear htk hstar hns
          go_wp2_with fail
          refine (hti _).mono ?_
          rintro e w' ⟨rfl, rfl⟩
          go_wp2_with fail
          go_ret3
          exact vyPost_no HR2.out (hB2.trans (hbel.mono hB2.size))
        · rw [htk] at hti
          have Hall := Lib.hid (allG_step Hx.out hall.out htk)
          have Hstar := Lib.hid hstar
          have hlpl := lowL_len p
          have hha := fun W (h : ReadL encL W W.heap.size A3 out) => w_HasT (lowL p) out (by omega) A3 c3 W.heap.size W h
          clear htk hstar
          cases hps : (p == [42])
          · have Hps := Lib.hid hps
            cases hold : (out.any fun y => lowL p == y)
            · have Hns := Lib.hid (hns.trans (addN_new hps hold))
              rw [hold] at hha
              clear hns hold
              generalize hlw : lowL p = lp at *
              clear hlw
              cases st0
              all_goals
                go_wp2_with fail
                refine (hti _).mono ?_
                rintro e w' ⟨rfl, rfl⟩
                go_wp2_with fail
                refine (hlo _).mono ?_
                rintro e w' ⟨rfl, rfl⟩
                go_wp2_with fail
                refine (hha _ hown.read).mono ?_
                rintro e w' ⟨rfl, rfl⟩
                go_wp2_with fail
                refine (hlo _).mono ?_
                rintro e w' ⟨rfl, rfl⟩
                go_wp2_with (at_builtin; refine wpList_app encL sl_strT [lp] rfl _ _ rfl rfl hown #[S lp] rfl 0 rfl rfl (by omega) (by simp only [maxLen]; omega) hbs ?_; intro g' c' w5 hown5 hg5 hb5 hbg5)
                go_roundw
                case rel => exact ⟨k + 1, out ++ [lp], _, _, by go_num, by rw [Hstar.out, Hps.out]; rfl, by simp, by omega, by simp; omega, Lib.hid Hns.out.symm, Hall, hown5, hbel.trans hb5⟩
                case measure => simp [intOf]; omega
            · have Hns := Lib.hid (hns.trans (addN_old hps hold))
              rw [hold] at hha
              clear hns hold
              generalize hlw : lowL p = lp at *
              clear hlw
              cases st0
              all_goals
                go_wp2_with fail
                refine (hti _).mono ?_
                rintro e w' ⟨rfl, rfl⟩
                go_wp2_with fail
                refine (hlo _).mono ?_
                rintro e w' ⟨rfl, rfl⟩
                go_wp2_with fail
                refine (hha _ hown.read).mono ?_
                rintro e w' ⟨rfl, rfl⟩
                go_wp2_with fail
                go_roundw
                case rel => exact ⟨k + 1, out, _, _, by go_num, by rw [Hstar.out, Hps.out]; rfl, rfl, by omega, by omega, Lib.hid Hns.out.symm, Hall, hown, hbel⟩
                case measure => simp [intOf]; omega
          · have Hps := Lib.hid hps
            have Hns := Lib.hid (hns.trans (addN_star hps))
            have hps2 : p = [42] := by simpa using hps
            subst hps2
            clear hps hns
            cases st0
            all_goals
              go_wp2_with fail
              refine (hti _).mono ?_
              rintro e w' ⟨rfl, rfl⟩
              go_wp2_with fail
              go_roundw
              case rel => exact ⟨k + 1, out, _, _, by go_num, by rw [Hstar.out, Hps.out]; rfl, rfl, by omega, by omega, Lib.hid Hns.out.symm, Hall, hown, hbel⟩
              case measure => simp [intOf]; omega
      · obtain rfl : k = ps.length := by omega
        have hal := hall.out
        have hnm2 := hnm.out
        rw [List.take_length] at hal hnm2 ⊢
        have HR2 := Lib.hid (show R = .ok (sortL out, ps.any fun p => p == [42]) from by rw [← HR.out, hnm2]; exact varyE_ok Hs.out hal)
        have hst := w_sorted out (by omega) A3 c3 wr hown.read
        generalize (ps.any fun p => p == [42]) = star at *
        generalize sortL out = srt at *
        clear hal hnm2 hnm hall htx
        go_wp2_with fail
        refine hst.mono ?_
        rintro e w7 ⟨⟨A7, c7, rfl, hown7⟩, hb7⟩
        go_wp2_with fail
        go_ret3
        exact vyPost_ok HR2.out rfl hown7.read (hB2.trans ((hbel.trans (hb7.mono hbs)).mono hB2.size))
end Go.Proofs.Ytmhhjmncbclihaa
