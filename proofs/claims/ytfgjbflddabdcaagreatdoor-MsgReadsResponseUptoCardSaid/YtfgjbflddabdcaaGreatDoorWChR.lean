/- Walk: the reference's chunkHead. -/
import Derived.Test.YtfgjbflddabdcaaGreatDoorWDcH
import Derived.Test.YtfgjbflddabdcaaGreatDoorWFc0
import Derived.Test.YtfgjbflddabdcaaGreatDoorWLowR
import Derived.Test.YtfgjbflddabdcaaGreatDoorWCutOne
import Derived.Deep.RegionWith
import Derived.Deep.DeepCutAuto
import Derived.Deep.CutBlock
namespace Go.Larder
open Go.RowKit
set_option linter.unusedVariables false
def hexT : List UInt8 := [48, 49, 50, 51, 52, 53, 54, 55, 56, 57, 97, 98, 99, 100, 101, 102, 65, 66, 67, 68, 69, 70]
def hexS : List UInt8 := [48, 49, 50, 51, 52, 53, 54, 55, 56, 57, 97, 98, 99, 100, 101, 102]
theorem hexT_is (c : UInt8) : inTab hexT c = isHx c := by
  have h : ∀ n : Nat, n < 256 → inTab hexT (UInt8.ofNat n) = isHx (UInt8.ofNat n) := by decide +kernel
  have := h c.toNat c.toNat_lt
  rwa [UInt8.ofNat_toNat] at this
theorem hexS_is (c : UInt8) (hc : isHx c = true) : Lib.indexByte hexS (lowB c) = (hxv c : Int) := by
  have h : ∀ n : Nat, n < 256 → isHx (UInt8.ofNat n) = true → Lib.indexByte hexS (lowB (UInt8.ofNat n)) = (hxv (UInt8.ofNat n) : Int) := by decide +kernel
  have := h c.toNat c.toNat_lt
  rw [UInt8.ofNat_toNat] at this
  exact this hc
theorem ubeq (a b : UInt8) : (a == b) = (b == a) := by rw [Bool.eq_iff_iff]; simp; exact eq_comm
theorem crlf_has (q : List UInt8) : Lib.hasPrefix [13, 10] q = (q == [] || q == [13] || q == [13, 10]) := by
  rw [← Lib.hasPrefix_of_take]
  match q with
  | [] => rfl
  | [a] => by_cases h : a = 13 <;> simp [h, ubeq a]
  | [a, b] => by_cases h : a = 13 <;> by_cases h2 : b = 10 <;> simp [h, h2, ubeq a, ubeq b]
  | a :: b :: c :: d => simp
end Go.Larder
namespace Go.Proofs.YtfgjbflddabdcaaGreatDoor
open Go.RowKit Go.Larder
set_option linter.unusedVariables false
set_option linter.unusedSimpArgs false
def chTup (r : Except Int (Nat × Nat)) : Value := match r with
  | .error e => .tuple #[.int .i64 0, .int .i64 0, .int .i64 e]
  | .ok (n, k) => .tuple #[.int .i64 n, .int .i64 k, .int .i64 0]
set_option maxHeartbeats 8000000 in
set_option maxRecDepth 100000 in
theorem ch_head (s : List UInt8) (hs : s.length ≤ 1048576) (w : World) :
    Calls Tryz.prog 86 #[S s] w fun e w' => e = .returned (chTup (headS s)) ∧ w = w' := by
  obtain ⟨R, hR⟩ : ∃ R, headS s = R := ⟨_, rfl⟩
  rw [hR]
  have HR := Lib.hid hR
  clear hR
  go_enter Tryz.func86, Tryz.ntmps86
  go_upto_block 0 with fail
  go_cut [5, 6] (fun n' k' wx => n' = .int .i64 ((hxN (s.take (hk s)) : Nat) : Int) ∧ k' = .int .i64 (hk s) ∧ w = wx)
  case first =>
    clear HR
    go_wp2_with fail
    go_loopw [5, 6] (fun n' k' wr => ∃ k : Nat, n' = .int .i64 ((hxN (s.take k) : Nat) : Int) ∧ k' = .int .i64 k ∧ k ≤ s.length ∧ k ≤ 4 ∧ (∀ c ∈ s.take k, isHx c = true) ∧ k + tw isHx (4 - k) (s.drop k) = hk s ∧ wr = w) (fun _ k' _ => 4 - (intOf k').toNat)
    case atStart => exact ⟨0, rfl, rfl, by omega, by omega, by simp, by simp [hk], rfl⟩
    case round =>
      obtain ⟨k, rfl, rfl, hk1, hk4, hall, hq, rfl⟩ := hrel
      by_cases hlt : k < s.length
      · obtain ⟨x, hx, hsd⟩ := drop_step hlt
        by_cases h4 : k < 4
        · have sl := fun w => run_sliceS (P := Tryz.prog) 9 Tryz.underlying9 s (k : Int) ((k : Int) + 1) (by omega) (by omega) (by omega) w
          rw [show ((k : Int) + 1).toNat - (k : Int).toNat = 1 from by omega, Int.toNat_natCast, hsd, List.take_succ_cons, List.take_zero] at sl
          rw [hsd, show 4 - k = (4 - (k + 1)) + 1 from by omega] at hq
          have hc := fc_Contains1 hexT x wr
          rw [hexT_is] at hc
          unfold hexT at hc
          cases hxx : isHx x
          · rw [tw_stop hxx] at hq
            rw [hxx] at hc
            have Hq := Lib.hid (show hk s = k from by rw [← hq]; rfl)
            clear hq hsd hx hxx hall
            go_wp2_with (go_at_call 95; refine hc.mono ?_; rintro e w' ⟨rfl, rfl⟩)
            go_meet
            case rel => exact ⟨by rw [Hq.out], by rw [Hq.out], rfl⟩
          · rw [tw_go hxx] at hq
            rw [hxx] at hc
            have hlo := w_LowerR [x] (by simp) wr
            have hix := c1_IndexByte hexS (lowB x) wr
            rw [hexS_is x hxx] at hix
            unfold hexS at hix
            have hv := hxv_lt hxx
            have hn1 : hxN (s.take (k + 1)) = 16 * hxN (s.take k) + hxv x := by rw [List.take_add_one, hx]; exact hxN_snoc _ _
            have hn2 := hxN_small (s.take k) hall (by rw [List.length_take]; omega)
            have hall2 : ∀ c ∈ s.take (k + 1), isHx c = true := fun c hc => by
              rw [List.take_add_one, hx] at hc
              rcases List.mem_append.1 hc with hc | hc
              · exact hall c hc
              · simp at hc; subst hc; exact hxx
            have Hn1 := Lib.hid (show ((hxN (s.take (k + 1)) : Nat) : Int) = 16 * ((hxN (s.take k) : Nat) : Int) + (hxv x : Int) from by omega)
            have Hall := Lib.hid hall2
            have Hq := Lib.hid hq
            change Calls _ _ _ _ (fun e w' => e = .returned (S [lowB x]) ∧ wr = w') at hlo
            generalize hxN (s.take k) = N at *
            generalize hxv x = V at *
            generalize lowB x = y at *
            clear hq hsd hx hxx hall hall2 hn1
            go_wp2_with (first
              | (go_at_call 95; refine hc.mono ?_; rintro e w' ⟨rfl, rfl⟩)
              | (go_at_call 69; refine hlo.mono ?_; rintro e w' ⟨rfl, rfl⟩)
              | (go_at_call 100; refine hix.mono ?_; rintro e w' ⟨rfl, rfl⟩))
            go_roundw
            case rel => exact ⟨k + 1, by rw [Hn1.out], by go_num, by omega, by omega, Hall.out, by rw [← Hq.out]; omega, by trivial⟩
            case measure => simp [intOf]; omega
        · have Hq := Lib.hid (show hk s = k from by rw [← hq, show 4 - k = 0 from by omega]; simp [tw])
          clear hq hsd hx hall
          go_wp2_with fail
          go_meet
          case rel => exact ⟨by rw [Hq.out], by rw [Hq.out], rfl⟩
      · have Hq := Lib.hid (show hk s = k from by
          rw [← hq, drop_end hlt]
          cases h9 : 4 - k <;> simp [tw])
        clear hq hall
        go_wp2_with fail
        go_meet
        case rel => exact ⟨by rw [Hq.out], by rw [Hq.out], rfl⟩
  case rest =>
    obtain ⟨rfl, rfl, rfl⟩ := hcut
    have hkl : hk s ≤ s.length := (tw_le isHx 4 s).1
    have hnx := hx_bd s
    have hel := he_le s
    have hke := hk_le s
    have HE := Lib.hid (show he s = if (s.drop (hk s)).head? = some 59 then hk s + 1 + tw isPl 50 (s.drop (hk s + 1)) else hk s from rfl)
    have HR2 := Lib.hid (show R = if s = [] then .error 8 else if hk s = 0 then .error 3 else if s.drop (he s) = [] ∨ s.drop (he s) = [13] then .error 8
      else if (s.drop (he s)).take 2 = [13, 10] then .ok (hxN (s.take (hk s)), he s + 2) else .error 3 from HR.out.symm)
    clear HR
    generalize hk s = K at *
    generalize he s = E at *
    generalize hxN (s.take K) = N at *
    by_cases hKl : K = s.length
    · have HQ := Lib.hid (show R = .error 8 from by
        rw [HR2.out]
        by_cases hse : s = []
        · rw [if_pos hse]
        · have hk0 : ¬ K = 0 := fun h => hse (List.eq_nil_of_length_eq_zero (by omega))
          have hd : s.drop K = [] := List.drop_eq_nil_of_le (by omega)
          have hE : E = K := by rw [HE.out, hd]; rfl
          rw [if_neg hse, if_neg hk0, hE, hd, if_pos (.inl rfl)])
      have h1 : ((K : Int) == (s.length : Int)) = true := by simp [hKl]
      clear HR2 HE hKl
      go_wp2_with fail
      go_ret3
      rw [HQ.out]
      exact ⟨rfl, rfl⟩
    · have hlt : K < s.length := by omega
      have hse : ¬ s = [] := fun e => by subst e; simp at hlt
      have h1 : ((K : Int) == (s.length : Int)) = false := by simp; omega
      by_cases hK : K = 0
      · have HQ := Lib.hid (show R = .error 3 from by rw [HR2.out, if_neg hse, if_pos hK])
        subst hK
        clear HR2 HE hKl
        go_wp2_with fail
        go_ret3
        rw [HQ.out]
        exact ⟨rfl, rfl⟩
      · have h2 : ((K : Int) == 0) = false := by simp; omega
        have HR3 := Lib.hid (show R = if s.drop E = [] ∨ s.drop E = [13] then .error 8
      else if (s.drop E).take 2 = [13, 10] then .ok (N, E + 2) else .error 3 from by rw [HR2.out, if_neg hse, if_neg hK])
        obtain ⟨x, hx, hsd⟩ := drop_step hlt
        have hg : ∀ h, s[K]'h = x := fun h => by rw [List.getElem?_eq_getElem h] at hx; exact Option.some.inj hx
        have HE2 := Lib.hid (show E = if (x.toNat : Int) = 59 then K + 1 + tw isPl 50 (s.drop (K + 1)) else K from by
          rw [HE.out, hsd]
          by_cases h59 : x = 59
          · subst h59; simp
          · rw [if_neg (by simpa using h59), if_neg (fun h => h59 (UInt8.toNat_inj.1 (by simpa using (by omega : x.toNat = 59))))])
        have Hhse := Lib.hid hse
        clear HR2 HE hKl hx hsd hse
        go_upto_if 46 with fail
        go_cut [6] (fun k' wx => k' = .int .i64 (E : Int) ∧ w = wx)
        case first =>
          clear HR3
          cases h59 : ((x.toNat : Int) == 59)
          · have HQ := Lib.hid (show E = K from by rw [HE2.out, if_neg (by simpa using h59)])
            clear HE2
            go_wp2_with fail
            go_meet
            case rel => exact ⟨by rw [HQ.out], rfl⟩
          · have Hk := Lib.hid (show E = K + 1 + tw isPl 50 (s.drop (K + 1)) from by rw [HE2.out, if_pos (by simpa using h59)])
            clear HE2 hke hel
            go_wp2_with fail
            go_loopw [6, 7] (fun k' m' wr => ∃ i : Nat, k' = .int .i64 ((K + 1 + i : Nat) : Int) ∧ m' = .int .i64 i ∧ K + 1 + i ≤ s.length ∧ i ≤ 50 ∧ i + tw isPl (50 - i) (s.drop (K + 1 + i)) = tw isPl 50 (s.drop (K + 1)) ∧ wr = w) (fun _ m' _ => 50 - (intOf m').toNat)
            case atStart => exact ⟨0, by go_num, rfl, by omega, by omega, by simp, rfl⟩
            case round =>
              obtain ⟨i, rfl, rfl, hi1, hi50, hq, rfl⟩ := hrel
              by_cases h5 : i < 50
              · by_cases hlt2 : K + 1 + i < s.length
                · obtain ⟨y, hy, hsd2⟩ := drop_step hlt2
                  have sl := fun w => run_sliceS (P := Tryz.prog) 9 Tryz.underlying9 s ((K + 1 + i : Nat) : Int) (((K + 1 + i : Nat) : Int) + 1) (by omega) (by omega) (by omega) w
                  rw [show (((K + 1 + i : Nat) : Int) + 1).toNat - ((K + 1 + i : Nat) : Int).toNat = 1 from by omega, Int.toNat_natCast, hsd2, List.take_succ_cons, List.take_zero] at sl
                  push_cast at sl
                  rw [hsd2, show 50 - i = (50 - (i + 1)) + 1 from by omega] at hq
                  have hc := fc_plainR [y] (by simp) wr
                  simp only [List.all_cons, List.all_nil, Bool.and_true] at hc
                  cases hyy : isPl y
                  · rw [tw_stop hyy] at hq
                    rw [hyy] at hc
                    have Hq := Lib.hid hq
                    clear hq hsd2 hy hyy
                    go_wp2_with (go_at_call 36; refine hc.mono ?_; rintro e w' ⟨rfl, rfl⟩)
                    go_meet
                    case rel => exact ⟨by rw [Hk.out, ← Hq.out]; simp, rfl⟩
                  · rw [tw_go hyy] at hq
                    rw [hyy] at hc
                    have Hq := Lib.hid hq
                    clear hq hsd2 hy hyy
                    go_wp2_with (go_at_call 36; refine hc.mono ?_; rintro e w' ⟨rfl, rfl⟩)
                    go_roundw
                    case rel => exact ⟨i + 1, by go_num, by go_num, by omega, by omega, by rw [← Hq.out, show K + 1 + (i + 1) = K + 1 + i + 1 from by omega]; omega, by trivial⟩
                    case measure => simp [intOf]; omega
                · have Hq := Lib.hid (show K + 1 + i = E from by
                    rw [Hk.out, ← hq, drop_end hlt2]
                    cases h9 : 50 - i <;> simp [tw])
                  clear hq
                  go_wp2_with fail
                  go_meet
                  case rel => exact ⟨by rw [← Hq.out]; go_num, rfl⟩
              · have Hq := Lib.hid (show K + 1 + i = E from by rw [Hk.out, ← hq, show 50 - i = 0 from by omega]; simp [tw])
                clear hq
                go_wp2_with fail
                go_meet
                case rel => exact ⟨by rw [← Hq.out]; go_num, rfl⟩
        case rest =>
          obtain ⟨rfl, rfl⟩ := hcut
          clear HE2 hg
          have sl := fun w => run_sliceT (P := Tryz.prog) 9 Tryz.underlying9 s (E : Int) (by omega) (by omega) w
          rw [Int.toNat_natCast] at sl
          have hpf := fun W => w_HasPrefix (s.drop E) [13, 10] (by rw [List.length_drop]; omega) (by simp) W
          have hpg := fun W => w_HasPrefix [13, 10] (s.drop E) (by simp) (by rw [List.length_drop]; omega) W
          rw [hasP] at hpf
          rw [crlf_has] at hpg
          generalize s.drop E = q at *
          cases hq2 : (q.take 2 == [13, 10])
          · have h2' : ¬ q.take 2 = [13, 10] := by simpa using hq2
            have h3' : (q == [13, 10]) = false := by
              rw [Bool.eq_false_iff]; intro h; have : q = [13, 10] := by simpa using h
              subst this; simp at h2'
            rw [hq2] at hpf
            rw [h3', Bool.or_false] at hpg
            cases hq01 : (q == [] || q == [13])
            · have HQ := Lib.hid (show R = .error 3 from by rw [HR3.out, if_neg (by simpa using hq01), if_neg h2'])
              rw [hq01] at hpg
              clear HR3 hq2 h2' h3' hq01
              go_wp2_with (first
                | (go_at_call 115; with_reducible refine Calls.mono (hpf _) ?_; rintro e w' ⟨rfl, rfl⟩)
                | (go_at_call 115; with_reducible refine Calls.mono (hpg _) ?_; rintro e w' ⟨rfl, rfl⟩))
              go_ret3
              rw [HQ.out]
              exact ⟨rfl, rfl⟩
            · have HQ := Lib.hid (show R = .error 8 from by rw [HR3.out, if_pos (by simpa using hq01)])
              rw [hq01] at hpg
              clear HR3 hq2 h2' h3' hq01
              go_wp2_with (first
                | (go_at_call 115; with_reducible refine Calls.mono (hpf _) ?_; rintro e w' ⟨rfl, rfl⟩)
                | (go_at_call 115; with_reducible refine Calls.mono (hpg _) ?_; rintro e w' ⟨rfl, rfl⟩))
              go_ret3
              rw [HQ.out]
              exact ⟨rfl, rfl⟩
          · have h2' : q.take 2 = [13, 10] := by simpa using hq2
            have h0' : ¬ (q = [] ∨ q = [13]) := fun h => by rcases h with rfl | rfl <;> simp at h2'
            have HQ := Lib.hid (show R = .ok (N, E + 2) from by rw [HR3.out, if_neg h0', if_pos h2'])
            rw [hq2] at hpf
            clear HR3 hq2 h2' h0' hpg
            go_wp2_with (go_at_call 115; refine (hpf _).mono ?_; rintro e w' ⟨rfl, rfl⟩)
            go_ret3
            rw [HQ.out]
            exact ⟨rfl, rfl⟩
end Go.Proofs.YtfgjbflddabdcaaGreatDoor
