/- Walk: target.dots. -/
import Derived.Test.YtldlbfdfaigkcaaDoorApp
import Derived.Test.YtldlbfdfaigkcaaDoorWLib
import Derived.Test.YtldlbfdfaigkcaaDoorWJoin
import Derived.Test.YtldlbfdfaigkcaaDoorWStr
import Derived.Test.YtldlbfdfaigkcaaDoorAppF
import Derived.Test.YtldlbfdfaigkcaaDoorSpecNrm
import Derived.Test.YtldlbfdfaigkcaaDoorSpecSpp
namespace Go.Proofs.YtldlbfdfaigkcaaDoor
open Go.RowKit Go.Larder
set_option linter.unusedVariables false
set_option linter.unusedSimpArgs false
theorem sl_strN : SlT Tryd.prog 63 9 1 16 := SlT.mk' (z := .string ByteArray.empty) Tryd.underlying63 (by kernel_rfl) rfl
theorem spl_len1 (c : UInt8) : ∀ s : List UInt8, (spl c s).length ≤ s.length + 1 := fun s => by
  have := spl_len c s
  have := List.count_le_length (a := c) (l := s)
  omega
theorem nrm_join (p : List UInt8) (hp : p.length ≤ 1000) : (nrm [] (spl 47 p)).length ≤ 1001 ∧ (Lib.join (nrm [] (spl 47 p)) [47]).length ≤ 1002001 := by
  have h1 := nrm_len (spl 47 p) []
  have h2 := spl_len1 47 p
  have h3 := nrm_mem 1000 (spl 47 p) [] (by simp) (fun x hx => by have := spl_mem_len hx; omega)
  have h4 := join_lenG [47] 1000 (nrm [] (spl 47 p)) h3
  simp only [List.length_nil, List.length_cons] at *
  refine ⟨by omega, Nat.le_trans h4 ?_⟩
  have : (nrm [] (spl 47 p)).length ≤ 1001 := by omega
  exact Nat.le_trans (Nat.mul_le_mul_right _ this) (by decide)
set_option maxHeartbeats 2000000 in
set_option maxRecDepth 100000 in
theorem w_dots (p : List UInt8) (hp : p.length ≤ 1000) (w : World) (hM : ML w) :
    Calls Tryd.prog 71 #[S (47 :: p)] w fun e w' => e = .returned (S ([47] ++ Lib.join (nrm [] (spl 47 p)) [47])) ∧ Below w.heap.size w w' := by
  obtain ⟨hj1, hj2⟩ := nrm_join p hp
  have hL := spl_len1 47 p
  have hsp := w_Split p [47] (by omega) (by simp) w hM
  rw [split_spl] at hsp
  obtain ⟨R, hR⟩ : ∃ R, nrm [] (spl 47 p) = R := ⟨_, rfl⟩
  rw [hR] at hj1 hj2 ⊢
  generalize spl 47 p = L at *
  have HR := Lib.hid hR
  clear hR
  have hL2 : L.length ≤ 1001 := by omega
  have Hj := Lib.hid (And.intro hj1 hj2)
  clear hj1 hj2
  go_enter Tryd.func71, Tryd.ntmps71
  go_wp2_with (go_at_call 78; refine hsp.mono ?_; rintro e w1 ⟨rfl, ho1, hb1⟩)
  have hr1 := ho1.read
  have hb1s := hb1.size
  clear hsp ho1
  go_loopw [3, 12] (fun o i' wr => ∃ (k : Nat) (out : List (List UInt8)) (A : Option Addr) (c : Nat), i' = .int .i64 k ∧ o = .slice A out.length c ∧ k ≤ L.length ∧ out.length ≤ k ∧ OwnL encS wr w1.heap.size 9 A c out ∧ Below w1.heap.size w1 wr ∧ Hid ((k < L.length → nrm out (L.drop k) = R) ∧ (k = L.length → out = R))) (fun _ i' _ => L.length - (intOf i').toNat)
  case atStart => exact ⟨0, [], none, 0, rfl, rfl, by omega, by simp, OwnL.nil _ _ _, Below.refl _ _, Lib.hid ⟨fun _ => HR.out, fun h => by have := HR.out; have h0 : L = [] := List.eq_nil_of_length_eq_zero h.symm; rw [h0, nrm_nil] at this; exact this⟩⟩
  case round =>
    obtain ⟨k, out, A, c, rfl, rfl, hk, hok, hown, hbel, heq⟩ := hrel
    have hbs := hbel.size
    by_cases hlt : k < L.length
    · obtain ⟨s, hx, hs⟩ := drop_step hlt
      obtain ⟨g, off, hA, hgb, hc0⟩ := (hr1.below hbel (Nat.le_refl _)).at_S hx
      have he := heq.out.1 hlt
      rw [hs] at he
      have hcap := hown.le_cap
      injection hA with hA
      injection hA with e1 e2
      subst e1 e2
      rw [Nat.zero_add] at hc0
      have v2 : IntKind.i64.wrap ((L.length : Int) - 1) = (L.length : Int) - 1 := IntWalk.i64_in _ ⟨by omega, by omega⟩
      have v3 : IntKind.i64.wrap ((out.length : Int) - 1) = (out.length : Int) - 1 := IntWalk.i64_in _ ⟨by omega, by omega⟩
      by_cases h2 : s = [46, 46]
      · subst h2
        clear hs hx
        rcases hown.form with ⟨rfl, h0, rfl⟩ | ⟨g1, rfl, hg1, hg2⟩
        · obtain rfl : out = [] := List.eq_nil_of_length_eq_zero h0
          clear h0
          by_cases hlast : k = L.length - 1
          · have hkb : ((k : Int) == (L.length : Int) - 1) = true := by simp; omega
            have hr0 : L.drop (k + 1) = [] := List.drop_eq_nil_of_le (by omega)
            rw [hr0, nrm_two_end] at he
            have Hq := Lib.hid (show (k + 1 < L.length → nrm ([] ++ [[]]) (L.drop (k + 1)) = R) ∧ (k + 1 = L.length → [] ++ [[]] = R) from ⟨fun h => by omega, fun _ => he⟩)
            clear he heq hr0 hlast
            go_wp2_with (at_builtin
                         refine wpList_app (l := ([] : List (List UInt8))) (A := none) (c := 0) encS sl_strN [([] : List UInt8)] rfl _ _ rfl (by rfl) (OwnL.nil _ _ _) #[S ([] : List UInt8)] rfl 0 rfl rfl (by omega) (by simp only [maxLen]; omega) (by omega) ?_
                         intro g' c'' w5 hown5 hg5 hb5 hbg)
            go_roundw
            case rel => exact ⟨k + 1, [] ++ [[]], _, _, by go_num, by simp, by omega, by first | (simp; done) | (simp; omega), hown5, hbel.trans hb5, Hq⟩
            case measure => simp [intOf]; omega
          · have hkb : ((k : Int) == (L.length : Int) - 1) = false := by simp; omega
            have hr0 : L.drop (k + 1) ≠ [] := fun h => by have := congrArg List.length h; simp at this; omega
            rw [nrm_two hr0] at he
            have Hq := Lib.hid (show (k + 1 < L.length → nrm [] (L.drop (k + 1)) = R) ∧ (k + 1 = L.length → [] = R) from ⟨fun _ => he, fun h => by omega⟩)
            clear he heq hr0 hlast
            go_wp2_with fail
            go_roundw
            case rel => exact ⟨k + 1, [], none, _, by go_num, rfl, by omega, by omega, (OwnL.nil _ _ _), hbel, Hq⟩
            case measure => simp [intOf]; omega
        · have hown2 : OwnL encS wr w1.heap.size 9 (some ⟨g1, 0, none⟩) c (out.take (out.length - 1)) := hown.take _ (by omega)
          have hdl : out.take (out.length - 1) = out.dropLast := List.dropLast_eq_take.symm
          rw [hdl] at hown2
          clear hdl
          have hl2 : out.dropLast.length = out.length - 1 := by simp
          obtain ⟨o2, ho2⟩ : ∃ o2, out.dropLast = o2 := ⟨_, rfl⟩
          rw [ho2] at hown2 hl2
          have Ho2 := Lib.hid ho2
          clear ho2
          have hmx : max 0 ((out.length : Int) - 1) = (o2.length : Int) := by omega
          have hcap2 : o2.length ≤ c := by omega
          have hcap3 : o2.length ≤ out.length := by omega
          clear hl2
          by_cases hlast : k = L.length - 1
          · have hkb : ((k : Int) == (L.length : Int) - 1) = true := by simp; omega
            have hr0 : L.drop (k + 1) = [] := List.drop_eq_nil_of_le (by omega)
            rw [hr0, nrm_two_end, Ho2.out] at he
            have Hq := Lib.hid (show (k + 1 < L.length → nrm (o2 ++ [[]]) (L.drop (k + 1)) = R) ∧ (k + 1 = L.length → o2 ++ [[]] = R) from ⟨fun h => by omega, fun _ => he⟩)
            clear he heq hr0 hlast
            go_wp2_with (at_builtin
                         refine wpList_app (l := o2) (A := (some ⟨g1, 0, none⟩)) (c := c) encS sl_strN [([] : List UInt8)] rfl _ _ rfl (by rfl) hown2 #[S ([] : List UInt8)] rfl 0 rfl rfl (by omega) (by simp only [maxLen]; omega) (by omega) ?_
                         intro g' c'' w5 hown5 hg5 hb5 hbg)
            go_roundw
            case rel => exact ⟨k + 1, o2 ++ [[]], _, _, by go_num, by simp, by omega, by first | (simp; done) | (simp; omega), hown5, hbel.trans hb5, Hq⟩
            case measure => simp [intOf]; omega
          · have hkb : ((k : Int) == (L.length : Int) - 1) = false := by simp; omega
            have hr0 : L.drop (k + 1) ≠ [] := fun h => by have := congrArg List.length h; simp at this; omega
            rw [nrm_two hr0, Ho2.out] at he
            have Hq := Lib.hid (show (k + 1 < L.length → nrm o2 (L.drop (k + 1)) = R) ∧ (k + 1 = L.length → o2 = R) from ⟨fun _ => he, fun h => by omega⟩)
            clear he heq hr0 hlast
            go_wp2_with fail
            go_roundw
            case rel => exact ⟨k + 1, o2, (some ⟨g1, 0, none⟩), _, by go_num, rfl, by omega, by omega, hown2, hbel, Hq⟩
            case measure => simp [intOf]; omega
      · by_cases h1 : s = [46]
        · subst h1
          clear hs hx
          by_cases hlast : k = L.length - 1
          · have hkb : ((k : Int) == (L.length : Int) - 1) = true := by simp; omega
            have hr0 : L.drop (k + 1) = [] := List.drop_eq_nil_of_le (by omega)
            rw [hr0, nrm_one_end] at he
            have Hq := Lib.hid (show (k + 1 < L.length → nrm (out ++ [[]]) (L.drop (k + 1)) = R) ∧ (k + 1 = L.length → out ++ [[]] = R) from ⟨fun h => by omega, fun _ => he⟩)
            clear he heq hr0 hlast
            go_wp2_with (at_builtin
                         refine wpList_app (l := out) (A := A) (c := c) encS sl_strN [([] : List UInt8)] rfl _ _ rfl (by rfl) hown #[S ([] : List UInt8)] rfl 0 rfl rfl (by omega) (by simp only [maxLen]; omega) (by omega) ?_
                         intro g' c'' w5 hown5 hg5 hb5 hbg)
            go_roundw
            case rel => exact ⟨k + 1, out ++ [[]], _, _, by go_num, by simp, by omega, by first | (simp; done) | (simp; omega), hown5, hbel.trans hb5, Hq⟩
            case measure => simp [intOf]; omega
          · have hkb : ((k : Int) == (L.length : Int) - 1) = false := by simp; omega
            have hr0 : L.drop (k + 1) ≠ [] := fun h => by have := congrArg List.length h; simp at this; omega
            rw [nrm_one hr0] at he
            have Hq := Lib.hid (show (k + 1 < L.length → nrm out (L.drop (k + 1)) = R) ∧ (k + 1 = L.length → out = R) from ⟨fun _ => he, fun h => by omega⟩)
            clear he heq hr0 hlast
            go_wp2_with fail
            go_roundw
            case rel => exact ⟨k + 1, out, A, _, by go_num, rfl, by omega, by omega, hown, hbel, Hq⟩
            case measure => simp [intOf]; omega
        · rw [nrm_other h2 h1] at he
          have Hq := Lib.hid (show (k + 1 < L.length → nrm (out ++ [s]) (L.drop (k + 1)) = R) ∧ (k + 1 = L.length → out ++ [s] = R) from ⟨fun _ => he, fun h => by rw [List.drop_eq_nil_of_le (by omega), nrm_nil] at he; exact he⟩)
          clear he heq hs hx
          have n2 : (s == [46, 46]) = false := by simpa using h2
          have n1 : (s == [46]) = false := by simpa using h1
          go_wp2_with (at_builtin
                       refine wpList_app (l := out) (A := A) (c := c) encS sl_strN [s] rfl _ _ rfl (by rfl) hown #[S s] rfl 0 rfl rfl (by omega) (by simp only [maxLen]; omega) (by omega) ?_
                       intro g' c'' w5 hown5 hg5 hb5 hbg)
          go_roundw
          case rel => exact ⟨k + 1, out ++ [s], _, _, by go_num, by simp, by omega, by first | (simp; done) | (simp; omega), hown5, hbel.trans hb5, Hq⟩
          case measure => simp [intOf]; omega
    · obtain rfl : k = L.length := by omega
      have Hq := Lib.hid (heq.out.2 rfl)
      clear heq
      obtain ⟨hj1, hj2⟩ := Hj.out
      have hjn := w_Join out [47] A c wr.heap.size
      rw [Hq.out] at hjn
      have hjn2 := fun W h1 h2 h3 => hjn W h1 h2 h3 (by omega) (by omega)
      have hcap := hown.le_cap
      rw [Hq.out] at hcap
      have hrd := hown.read
      rw [Hq.out] at hrd
      have hol : out.length = R.length := by rw [Hq.out]
      rw [hol]
      clear hol hjn hown hok
      obtain ⟨J, hJ⟩ : ∃ J, Lib.join R [47] = J := ⟨_, rfl⟩
      rw [hJ] at hjn2 hj2
      have HJ := Lib.hid hJ
      clear hJ hj1
      have hbw := hb1.trans (hbel.mono hb1s)
      have hc : ∀ w, (Op.stringOp .add ⟨#[47]⟩ ⟨J.toArray⟩).run Tryd.prog w = .ok (.string ⟨([47] ++ J).toArray⟩) w := fun w => run_cat [47] J (by simp) (by omega) w
      go_wp2_with (go_at_call 48; refine (hjn2 _ hrd (Nat.le_refl _) hcap).mono ?_; rintro e w2 ⟨rfl, hb2⟩)
      go_ret
      rw [HJ.out]
      exact ⟨rfl, hbw.trans (hb2.mono hbw.size)⟩
end Go.Proofs.YtldlbfdfaigkcaaDoor
