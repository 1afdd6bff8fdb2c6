/- Walk: a list of entity tags: the program's. -/
import Derived.Test.YtcoghpokkhjhgaaGreatDoorWTagF
import Derived.Test.YtcoghpokkhjhgaaGreatDoorWTrimL
import Derived.Test.YtcoghpokkhjhgaaGreatDoorSpecs
import Derived.Test.YtcoghpokkhjhgaaGreatDoorEncT
import Derived.Test.YtcoghpokkhjhgaaGreatDoorApp
namespace Go.Proofs.YtcoghpokkhjhgaaGreatDoor
open Go.RowKit Go.Larder
set_option linter.unusedVariables false
set_option linter.unusedSimpArgs false


theorem sl_T : SlT Tryz.prog 64 34 2 24 := SlT.mk' (z := .agg #[.bool false, .string ByteArray.empty]) Tryz.underlying64 (by kernel_rfl) rfl
def tlR : Option (List Tg) → List Tg × Int
  | none => ([], 3)
  | some out => if out = [] then ([], 3) else if 20 < out.length then ([], 2) else (out, 0)
theorem tlR_many {R : Option (List Tg)} {out : List Tg} (h : R = some out) (h20 : 20 < out.length) : tlR R = ([], 2) := by
  subst h
  unfold tlR
  simp only
  rw [if_neg (fun e => by rw [e] at h20; simp at h20), if_pos h20]
theorem tlR_ok {R : Option (List Tg)} {out : List Tg} (h : R = some out) (h0 : 0 < out.length) (h20 : ¬ 20 < out.length) : tlR R = (out, 0) := by
  subst h
  unfold tlR
  simp only
  rw [if_neg (fun e => by rw [e] at h0; simp at h0), if_neg h20]
def tlE (s : List UInt8) : List Tg × Bool × Int :=
  if 1000 < s.length then ([], false, 2) else if s = [42] then ([], true, 0) else ((tlR (tlP (s.length + 1) s [])).1, false, (tlR (tlP (s.length + 1) s [])).2)
def TlPost (w : World) (x : List Tg × Bool × Int) (e : Ending) (w' : World) : Prop :=
  ∃ A c, e = .returned (.tuple #[.slice A x.1.length c, .bool x.2.1, .int .i64 x.2.2]) ∧ ReadL encT w' w'.heap.size A x.1 ∧ Below w.heap.size w w'
theorem tlPost_none {w w' : World} {b : Bool} {n : Int} (hb : Below w.heap.size w w') : TlPost w ([], b, n) (.returned (.tuple #[.slice none 0 0, .bool b, .int .i64 n])) w' := ⟨none, 0, rfl, ReadL.nil, hb⟩
theorem tlPost_bad {w w' : World} {R : Option (List Tg)} (h : tlR R = ([], 3)) (hb : Below w.heap.size w w') : TlPost w ((tlR R).1, false, (tlR R).2) (.returned (.tuple #[.slice none 0 0, .bool false, .int .i64 3])) w' := by rw [h]; exact tlPost_none hb
theorem tlPost_many {w w' : World} {R : Option (List Tg)} (h : tlR R = ([], 2)) (hb : Below w.heap.size w w') : TlPost w ((tlR R).1, false, (tlR R).2) (.returned (.tuple #[.slice none 0 0, .bool false, .int .i64 2])) w' := by rw [h]; exact tlPost_none hb
theorem tlPost_ok {w w' : World} {R : Option (List Tg)} {out : List Tg} {A : Option Addr} {c : Nat} (h : tlR R = (out, 0)) (ho : OwnL encT w' w.heap.size 34 A c out) (hb : Below w.heap.size w w') :
    TlPost w ((tlR R).1, false, (tlR R).2) (.returned (.tuple #[.slice A out.length c, .bool false, .int .i64 0])) w' := by rw [h]; exact ⟨A, c, rfl, ho.read, hb⟩
theorem tlPost_ok' {w w' : World} {R : Option (List Tg)} {out : List Tg} {A : Option Addr} {c n : Nat} (h : tlR R = (out, 0)) (hn : out.length = n) (ho : OwnL encT w' w.heap.size 34 A c out) (hb : Below w.heap.size w w') :
    TlPost w ((tlR R).1, false, (tlR R).2) (.returned (.tuple #[.slice A n c, .bool false, .int .i64 0])) w' := by rw [← hn]; exact tlPost_ok h ho hb

set_option maxHeartbeats 4000000 in
set_option maxRecDepth 100000 in
theorem w_TagList (s : List UInt8) (hs : s.length ≤ 140737488351232) (w : World) :
    Calls Tryz.prog 31 #[S s] w (TlPost w (tlE s)) := by
  unfold tlE
  by_cases hbig : 1000 < s.length
  · rw [if_pos hbig]
    go_enter Tryz.func31, Tryz.ntmps31
    go_wp2_with fail
    go_ret3
    exact tlPost_none (Below.refl _ _)
  · rw [if_neg hbig]
    cases hst : (s == [42])
    · have hst1 : ¬ s = [42] := by simpa using hst
      rw [if_neg hst1]
      obtain ⟨R, hR⟩ : ∃ R, tlP (s.length + 1) s [] = R := ⟨_, rfl⟩
      rw [hR]
      have HR := Lib.hid hR
      clear hR hst1
      go_enter Tryz.func31, Tryz.ntmps31
      go_wp2_with fail
      clear hst
      go_loopw [0, 5] (fun t o wr => ∃ (s1 : List UInt8) (n : Nat) (out : List Tg) (A : Option Addr) (c : Nat), t = S s1 ∧ o = .slice A out.length c ∧ s1.length + out.length ≤ 1000 ∧ OwnL encT wr w.heap.size 34 A c out ∧ Below w.heap.size w wr ∧ s1.length < n ∧ Hid (tlP n s1 out = R)) (fun t _ _ => lenOf t)
      case atStart => exact ⟨s, s.length + 1, [], none, 0, rfl, rfl, by simp; omega, OwnL.nil _ _ _, Below.refl _ _, by omega, HR⟩
      case round =>
        obtain ⟨s1, n, out, A, c, rfl, rfl, hlen, hown, hbel, hn, heq⟩ := hrel
        obtain ⟨m, rfl⟩ : ∃ m, n = m + 1 := ⟨n - 1, by omega⟩
        have hbs := hbel.size
        have htl := fun w => w_TrimLeft s1 (by omega) w
        have hdl : (s1.dropWhile isB).length ≤ s1.length := dropWhile_len s1
        have heq2 := heq.out
        unfold tlP at heq2
        clear heq
        cases hd : s1.dropWhile isB with
        | nil =>
          rw [hd] at htl heq2
          have Hq := Lib.hid heq2.symm
          clear heq2 hd hdl
          rcases Nat.eq_zero_or_pos out.length with hz | hz
          · have hz2 : out = [] := List.length_eq_zero_iff.1 hz
            subst hz2
            have Hz := Lib.hid hz
            clear hz
            go_wp2_with (go_at_call 57; refine (htl _).mono ?_; rintro e w1 ⟨rfl, hb1⟩)
            go_ret3
            exact tlPost_bad (by rw [Hq.out]; rfl) (hbel.trans (hb1.mono hbs))
          · by_cases h20 : 20 < out.length
            · have hz3 : ((out.length : Int) == 0) = false := by rw [beq_eq_false_iff_ne]; omega
              go_wp2_with (go_at_call 57; refine (htl _).mono ?_; rintro e w1 ⟨rfl, hb1⟩)
              go_ret3
              exact tlPost_many (tlR_many Hq.out h20) (hbel.trans (hb1.mono hbs))
            · have hz3 : ((out.length : Int) == 0) = false := by rw [beq_eq_false_iff_ne]; omega
              go_wp2_with (go_at_call 57; refine (htl _).mono ?_; rintro e w1 ⟨rfl, hb1⟩)
              go_ret3
              exact tlPost_ok (tlR_ok Hq.out (by omega) h20) (hown.below hb1 (Nat.le_refl _)) (hbel.trans (hb1.mono hbs))
        | cons a r =>
          rw [hd] at htl heq2 hdl
          simp only [List.length_cons] at heq2 hdl
          have ha := drop_head hd
          clear hd
          cases hc : ((a.toNat : Int) == 44)
          · have hc1 : ¬ a = 44 := fun h => by rw [h] at hc; simp at hc
            rw [if_neg hc1] at heq2
            have hf := fun w => w_tfirst (a :: r) (by simp; omega) w
            clear hc1 ha
            cases hfe : firstE (a :: r) with
            | none =>
              rw [hfe] at heq2
              simp only [hfe] at hf
              have Hq := Lib.hid heq2.symm
              clear heq2 hfe
              go_wp2_with (first
                | (go_at_call 57; refine (htl _).mono ?_; rintro e w1 ⟨rfl, hb1⟩)
                | (go_at_call 29; refine (hf _).mono ?_; rintro e w2 ⟨rfl, hb2⟩))
              go_ret3
              have hB2 := (hbel.trans (hb1.mono hbs)).trans (hb2.mono (Nat.le_trans hbs hb1.size))
              exact tlPost_bad (by rw [Hq.out]; rfl) (hB2.alloc hB2.size _)
            | some x =>
              obtain ⟨wk, t, rest⟩ := x
              have hrl : rest.length + 1 ≤ r.length := by
                obtain ⟨h1, h2⟩ := firstE_some hfe
                have := congrArg List.length h1
                cases wk <;> simp [tagL, wkL] at this <;> omega
              rw [hfe] at heq2
              simp only [hfe] at hf
              simp only at heq2
              have htl2 := fun w => w_TrimLeft rest (by omega) w
              have hdl2 : (rest.dropWhile isB).length ≤ rest.length := dropWhile_len rest
              clear hfe
              cases hd2 : rest.dropWhile isB with
              | nil =>
                rw [hd2] at htl2 heq2
                have Hq := Lib.hid heq2.symm
                clear heq2 hd2 hdl2
                by_cases h20 : 20 < out.length + 1
                · have hz3 : ((out.length : Int) + 1 == 0) = false := by rw [beq_eq_false_iff_ne]; omega
                  go_wp2_with fail
                  refine (htl _).mono ?_
                  rintro e w1 ⟨rfl, hb1⟩
                  go_wp2_with (first
                    | (go_at_call 29; refine (hf _).mono ?_; rintro e w2 ⟨rfl, hb2⟩
                       have hB2 := (hbel.trans (hb1.mono hbs)).trans (hb2.mono (Nat.le_trans hbs hb1.size))
                       have hown2 := (((hown.below hb1 (Nat.le_refl _)).below hb2 (Nat.le_refl _)).alloc (.cells #[.bool wk, S t] 34))
                       have hB3 := hB2.alloc hB2.size (.cells #[.bool wk, S t] 34))
                    | (at_builtin; refine wpList_app encT sl_T [(wk, t)] rfl _ _ rfl rfl hown2 #[.bool wk, S t] rfl 0 rfl (by first | rfl | (simp [go_sem]; done)) (by omega) (by simp only [maxLen]; omega) hB3.size ?_; intro g c'' w5 hown5 hg5 hb5 hbg
                       have hB5 := hB3.trans hb5)
                    | (go_at_call 57; refine (htl2 _).mono ?_; rintro e w6 ⟨rfl, hb6⟩
                       have hB6 := hB5.trans (hb6.mono hB5.size)
                       have hown6 := hown5.below hb6 (Nat.le_refl _)))
                  go_ret3
                  exact tlPost_many (tlR_many Hq.out (by simpa using h20)) (hB6)
                · have hz3 : ((out.length : Int) + 1 == 0) = false := by rw [beq_eq_false_iff_ne]; omega
                  go_wp2_with fail
                  refine (htl _).mono ?_
                  rintro e w1 ⟨rfl, hb1⟩
                  go_wp2_with (first
                    | (go_at_call 29; refine (hf _).mono ?_; rintro e w2 ⟨rfl, hb2⟩
                       have hB2 := (hbel.trans (hb1.mono hbs)).trans (hb2.mono (Nat.le_trans hbs hb1.size))
                       have hown2 := (((hown.below hb1 (Nat.le_refl _)).below hb2 (Nat.le_refl _)).alloc (.cells #[.bool wk, S t] 34))
                       have hB3 := hB2.alloc hB2.size (.cells #[.bool wk, S t] 34))
                    | (at_builtin; refine wpList_app encT sl_T [(wk, t)] rfl _ _ rfl rfl hown2 #[.bool wk, S t] rfl 0 rfl (by first | rfl | (simp [go_sem]; done)) (by omega) (by simp only [maxLen]; omega) hB3.size ?_; intro g c'' w5 hown5 hg5 hb5 hbg
                       have hB5 := hB3.trans hb5)
                    | (go_at_call 57; refine (htl2 _).mono ?_; rintro e w6 ⟨rfl, hb6⟩
                       have hB6 := hB5.trans (hb6.mono hB5.size)
                       have hown6 := hown5.below hb6 (Nat.le_refl _)))
                  go_ret3
                  exact tlPost_ok' (tlR_ok Hq.out (by simp) (by simpa using h20)) (by simp) hown6 (hB6)
              | cons a2 r2 =>
                rw [hd2] at htl2 heq2 hdl2
                simp only [List.length_cons] at heq2 hdl2
                clear hd2
                cases hc2 : ((a2.toNat : Int) == 44)
                · have hc3 : ¬ a2 = 44 := fun h => by rw [h] at hc2; simp at hc2
                  rw [if_neg hc3] at heq2
                  have Hq := Lib.hid heq2.symm
                  clear heq2 hc3
                  go_wp2_with fail
                  refine (htl _).mono ?_
                  rintro e w1 ⟨rfl, hb1⟩
                  go_wp2_with (first
                    | (go_at_call 29; refine (hf _).mono ?_; rintro e w2 ⟨rfl, hb2⟩
                       have hB2 := (hbel.trans (hb1.mono hbs)).trans (hb2.mono (Nat.le_trans hbs hb1.size))
                       have hown2 := (((hown.below hb1 (Nat.le_refl _)).below hb2 (Nat.le_refl _)).alloc (.cells #[.bool wk, S t] 34))
                       have hB3 := hB2.alloc hB2.size (.cells #[.bool wk, S t] 34))
                    | (at_builtin; refine wpList_app encT sl_T [(wk, t)] rfl _ _ rfl rfl hown2 #[.bool wk, S t] rfl 0 rfl (by first | rfl | (simp [go_sem]; done)) (by omega) (by simp only [maxLen]; omega) hB3.size ?_; intro g c'' w5 hown5 hg5 hb5 hbg
                       have hB5 := hB3.trans hb5)
                    | (go_at_call 57; refine (htl2 _).mono ?_; rintro e w6 ⟨rfl, hb6⟩
                       have hB6 := hB5.trans (hb6.mono hB5.size)
                       have hown6 := hown5.below hb6 (Nat.le_refl _)))
                  go_ret3
                  exact tlPost_bad (by rw [Hq.out]; rfl) hB6
                · have hc3 : a2 = 44 := UInt8.toNat_inj.1 (by simp at hc2 ⊢; omega)
                  rw [if_pos hc3] at heq2
                  have Hq := Lib.hid heq2
                  clear heq2 hc3
                  go_wp2_with fail
                  refine (htl _).mono ?_
                  rintro e w1 ⟨rfl, hb1⟩
                  go_wp2_with (first
                    | (go_at_call 29; refine (hf _).mono ?_; rintro e w2 ⟨rfl, hb2⟩
                       have hB2 := (hbel.trans (hb1.mono hbs)).trans (hb2.mono (Nat.le_trans hbs hb1.size))
                       have hown2 := (((hown.below hb1 (Nat.le_refl _)).below hb2 (Nat.le_refl _)).alloc (.cells #[.bool wk, S t] 34))
                       have hB3 := hB2.alloc hB2.size (.cells #[.bool wk, S t] 34))
                    | (at_builtin; refine wpList_app encT sl_T [(wk, t)] rfl _ _ rfl rfl hown2 #[.bool wk, S t] rfl 0 rfl (by first | rfl | (simp [go_sem]; done)) (by omega) (by simp only [maxLen]; omega) hB3.size ?_; intro g c'' w5 hown5 hg5 hb5 hbg
                       have hB5 := hB3.trans hb5)
                    | (go_at_call 57; refine (htl2 _).mono ?_; rintro e w6 ⟨rfl, hb6⟩
                       have hB6 := hB5.trans (hb6.mono hB5.size)
                       have hown6 := hown5.below hb6 (Nat.le_refl _)))
                  go_roundw
                  case rel => exact ⟨r2, m, out ++ [(wk, t)], _, _, by simp, by simp, by simp; omega, hown6, hB6, by omega, Hq⟩
                  case measure => simp [lenOf_S]; omega
          · have hc1 : a = 44 := UInt8.toNat_inj.1 (by simp at hc ⊢; omega)
            rw [if_pos hc1] at heq2
            have Hq := Lib.hid heq2
            clear heq2 hc1 ha
            go_wp2_with (go_at_call 57; refine (htl _).mono ?_; rintro e w1 ⟨rfl, hb1⟩)
            go_roundw
            case rel => exact ⟨r, m, out, A, c, by simp, rfl, by omega, hown.below hb1 (Nat.le_refl _), hbel.trans (hb1.mono hbs), by omega, Hq⟩
            case measure => simp [lenOf_S]; omega
    · have hst1 : s = [42] := by simpa using hst
      rw [if_pos hst1]
      subst hst1
      go_enter Tryz.func31, Tryz.ntmps31
      go_wp2_with fail
      go_ret3
      exact tlPost_none (Below.refl _ _)
end Go.Proofs.YtcoghpokkhjhgaaGreatDoor
