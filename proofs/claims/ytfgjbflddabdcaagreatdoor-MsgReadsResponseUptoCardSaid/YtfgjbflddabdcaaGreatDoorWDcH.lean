/- Walks: a decoder's step: the head of a chunk. -/
import Derived.Test.YtfgjbflddabdcaaGreatDoorWPi
import Derived.Test.YtfgjbflddabdcaaGreatDoorWCut
import Derived.Test.YtfgjbflddabdcaaGreatDoorBoxAt
import Derived.Test.YtfgjbflddabdcaaGreatDoorWStr
import Derived.Deep.DeepCutAuto
import Derived.Laws.EntriesVeiled
import Derived.Deep.CutBlock
namespace Go.Proofs.YtfgjbflddabdcaaGreatDoor
open Go.RowKit Go.Larder
set_option linter.unusedVariables false
set_option linter.unusedSimpArgs false
theorem w_bHex (c : UInt8) (w : World) : Calls Tryz.prog 139 #[.int .u8 c.toNat] w fun e w' => e = .returned (.bool (isHx c)) ∧ w = w' := by
  by_cases h1 : 48 ≤ (c.toNat : Int) <;> by_cases h2 : (c.toNat : Int) ≤ 57 <;> by_cases h3 : 97 ≤ (c.toNat : Int) <;> by_cases h4 : (c.toNat : Int) ≤ 102 <;> by_cases h5 : 65 ≤ (c.toNat : Int) <;> by_cases h6 : (c.toNat : Int) ≤ 70 <;> first
    | (exfalso; omega)
    | (have H := Lib.hid (show isHx c = true from by unfold isHx; simp; omega)
       go_enter Tryz.func139, Tryz.ntmps139
       go_wp2
       go_ret
       exact ⟨ret_bool (by rw [H.out]), rfl⟩)
    | (have H := Lib.hid (show isHx c = false from by unfold isHx; simp; omega)
       go_enter Tryz.func139, Tryz.ntmps139
       go_wp2
       go_ret
       exact ⟨ret_bool (by rw [H.out]), rfl⟩)
theorem w_bPlain (c : UInt8) (w : World) :
    Calls Tryz.prog 140 #[.int .u8 c.toNat] w fun e w' => e = .returned (.bool (isPl c)) ∧ w = w' := by
  by_cases h1 : 32 ≤ (c.toNat : Int) <;> by_cases h2 : (c.toNat : Int) ≤ 126 <;> cases h3 : ((c.toNat : Int) == 9) <;>
    (go_enter Tryz.func140, Tryz.ntmps140
     go_wp2
     go_ret
     refine ⟨ret_bool ?_, rfl⟩
     simp at h1 h2 h3
     simp [isPl, h1, h2, h3]
     try omega)
/-- A decoder's cells. -/
def decC (f : Nat) (rest : List UInt8) (left : Int) (A : Option Addr) (n c : Nat) (done bad : Bool) : List Value := [.func (.func f) #[] #[], S rest, .int .i64 left, .slice A n c, .bool done, .bool bad]
def HdOut (W : World) (b : Nat) (s out rest : List UInt8) (left : Int) (A : Option Addr) (c : Nat) (done bad : Bool) (r : Except Int (Nat × Nat)) (e : Ending) (W' : World) : Prop :=
  Below b W W' ∧ OwnL encB W' (b + 1) 5 A c out ∧ match r with
    | .error n => e = .returned (.tuple #[.int .i64 0, .int .i64 n]) ∧ BoxAt W' b 127 (decC 113 rest left A out.length c done bad)
    | .ok (n, k) => e = .returned (.tuple #[.int .i64 (if 5000 < out.length + n then 0 else k), .int .i64 (if 5000 < out.length + n then 2 else 0)]) ∧ BoxAt W' b 127 (decC (if n = 0 then 143 else 142) rest n A out.length c done bad)
/-- A store into a decoder leaves its body's bytes. -/
theorem own_box {W : World} {b c : Nat} {A : Option Addr} {out : List UInt8} (h : OwnL encB W (b + 1) 5 A c out) (j : Nat) (v : Value) : OwnL encB (W.setCell ⟨b, j, none⟩ v) (b + 1) 5 A c out :=
  h.keep fun g hg => heap_setCell_other _ _ _ _ (by have := (h.lt g hg).1; show g.block ≠ b; omega)
theorem hasP (s : List UInt8) : Lib.hasPrefix s [13, 10] = (s.take 2 == [13, 10]) := by
  have h0 := Lib.hasPrefix_of_take s [13, 10]
  rw [← h0]
  by_cases h : 2 ≤ s.length
  · simp [h]
  · have : ¬ s.take 2 = [13, 10] := fun e => by have := congrArg List.length e; rw [List.length_take] at this; simp at this; omega
    simp [h, this]
set_option maxHeartbeats 8000000 in
set_option maxRecDepth 100000 in
theorem dc_head (b : Nat) (s out rest : List UInt8) (hs : s.length ≤ 2097152) (left : Int) (A : Option Addr) (c : Nat) (done bad : Bool) (ho : out.length ≤ 5000) (W : World) (bx : BoxAt W b 127 (decC 113 rest left A out.length c done bad)) (hown : OwnL encB W (b + 1) 5 A c out) :
    Calls Tryz.prog 113 #[.pointer (some ⟨b, 0, none⟩), S s] W (HdOut W b s out rest left A c done bad (headS s)) := by
  obtain ⟨R, hR⟩ : ∃ R, headS s = R := ⟨_, rfl⟩
  rw [hR]
  have HR := Lib.hid hR
  have hbl := bx.lt
  clear hR
  go_enter Tryz.func113, Tryz.ntmps113
  go_upto_block 0 with fail
  go_cut [6] (fun n' wx => n' = .int .i64 (hk s) ∧ W = wx)
  case first =>
    clear HR
    go_wp2_with fail
    go_loopw [6] (fun n' wr => ∃ k : Nat, n' = .int .i64 k ∧ k ≤ s.length ∧ k ≤ 4 ∧ k + tw isHx (4 - k) (s.drop k) = hk s ∧ wr = W) (fun n' _ => 4 - (intOf n').toNat)
    case atStart => exact ⟨0, rfl, by omega, by omega, by simp [hk], rfl⟩
    case round =>
      obtain ⟨k, rfl, hk1, hk4, hq, rfl⟩ := hrel
      by_cases hlt : k < s.length
      · obtain ⟨x, hx, hsd⟩ := drop_step hlt
        have hg : ∀ h, s[k]'h = x := fun h => by rw [List.getElem?_eq_getElem h] at hx; exact Option.some.inj hx
        by_cases h4 : k < 4
        · rw [hsd, show 4 - k = (4 - (k + 1)) + 1 from by omega] at hq
          have hc := w_bHex x wr
          cases hxx : isHx x
          · rw [tw_stop hxx] at hq
            rw [hxx] at hc
            have Hq := Lib.hid hq
            clear hq hsd hx hxx
            go_wp2_with (go_at_call 139; refine hc.mono ?_; rintro e w' ⟨rfl, rfl⟩)
            go_meet
            case rel => exact ⟨by rw [← Hq.out]; simp, rfl⟩
          · rw [tw_go hxx] at hq
            rw [hxx] at hc
            have Hq := Lib.hid hq
            clear hq hsd hx hxx
            go_wp2_with (go_at_call 139; refine hc.mono ?_; rintro e w' ⟨rfl, rfl⟩)
            go_roundw
            case rel => exact ⟨k + 1, by go_num, by omega, by omega, by rw [← Hq.out]; omega, by trivial⟩
            case measure => simp [intOf]; omega
        · have Hq := Lib.hid (show hk s = k from by rw [← hq, show 4 - k = 0 from by omega]; simp [tw])
          clear hq hsd hx
          go_wp2_with fail
          go_meet
          case rel => exact ⟨by rw [Hq.out], rfl⟩
      · have Hq := Lib.hid (show hk s = k from by
          rw [← hq, drop_end hlt]
          cases h9 : 4 - k <;> simp [tw])
        clear hq
        go_wp2_with fail
        go_meet
        case rel => exact ⟨by rw [Hq.out], rfl⟩
  case rest =>
    obtain ⟨rfl, rfl⟩ := hcut
    have hkl : hk s ≤ s.length := (tw_le isHx 4 s).1
    have hk4 := hk4 s
    have hpr := fun (h : 0 < hk s) W => w_ParseInt (s.take (hk s)) (fun e => by have := congrArg List.length e; rw [List.length_take, List.length_nil] at this; omega) (by rw [List.length_take]; omega) (fun c hc => tw_all c hc) W
    have hnx := hx_bd s
    have hel := he_le s
    have hke := hk_le s
    have HE := Lib.hid (show he s = if (s.drop (hk s)).head? = some 59 then hk s + 1 + tw isPl 50 (s.drop (hk s + 1)) else hk s from rfl)
    have HR2 := Lib.hid (show R = if s = [] then .error 8 else if hk s = 0 then .error 3 else if s.drop (he s) = [] ∨ s.drop (he s) = [13] then .error 8
      else if (s.drop (he s)).take 2 = [13, 10] then .ok (hxN (s.take (hk s)), he s + 2) else .error 3 from HR.out.symm)
    clear HR
    generalize hk s = K at *
    generalize he s = E at *
    obtain ⟨x?, hx?⟩ : ∃ x, (s.drop K).head? = x := ⟨_, rfl⟩
    go_upto_region 5 with fail
    go_cut [41] (fun c' wx => c' = .bool (decide (0 < K) && decide (x? = some 59)) ∧ W = wx)
    case first =>
      clear hpr HE HR2
      by_cases h0 : 0 < K
      · by_cases hlt : K < s.length
        · obtain ⟨x, hx, hsd⟩ := drop_step hlt
          have hg : ∀ h, s[K]'h = x := fun h => by rw [List.getElem?_eq_getElem h] at hx; exact Option.some.inj hx
          rw [hsd] at hx?
          have hx2 : x? = some x := hx?.symm
          have Hx2 := Lib.hid hx2
          clear hx? hx2 hx hsd
          cases h59 : ((x.toNat : Int) == 59)
          all_goals
            go_wp2_with fail
            go_meet
            case rel => exact ⟨by rw [Hx2.out]; simp at h59; simp [h0]; (first | omega | (intro e; subst e; exact h59 rfl) | (apply UInt8.toNat_inj.1; simpa using (by omega : x.toNat = 59))), rfl⟩
        · have Hx := Lib.hid (show x? = none from by rw [← hx?, drop_end hlt]; rfl)
          clear hx?
          go_wp2_with fail
          go_meet
          case rel => exact ⟨by rw [Hx.out]; simp, rfl⟩
      · have h0' : K = 0 := by omega
        subst h0'
        go_wp2_with fail
        go_meet
        case rel => exact ⟨by simp, rfl⟩
    case rest =>
      obtain ⟨hc41, rfl⟩ := hcut
      obtain ⟨ext, hext⟩ : ∃ ext, (decide (0 < K) && decide (x? = some 59)) = ext := ⟨_, rfl⟩
      rw [hext] at hc41
      subst hc41
      have Hext := Lib.hid hext
      have HE2 := Lib.hid (show E = if x? = some 59 then K + 1 + tw isPl 50 (s.drop (K + 1)) else K from by rw [← hx?]; exact HE.out)
      have hE0 : ext = true → 0 < K ∧ K < s.length ∧ E = K + 1 + tw isPl 50 (s.drop (K + 1)) := fun h => by
        subst h
        simp only [Bool.and_eq_true, decide_eq_true_eq] at hext
        refine ⟨hext.1, ?_, by rw [HE2.out, if_pos hext.2]⟩
        rcases Nat.lt_or_ge K s.length with h | h
        · exact h
        · rw [List.drop_eq_nil_of_le h, hext.2] at hx?; cases hx?
      have hE1 : ext = false → (if K = 0 then 0 else E) = K := fun h => by
        subst h
        simp only [Bool.and_eq_false_iff, decide_eq_false_iff_not] at hext
        rcases hext with h | h
        · rw [if_pos (by omega)]; omega
        · split
          · omega
          · rw [HE2.out, if_neg h]
      have HE3 := Lib.hid hE0
      have HE4 := Lib.hid hE1
      clear hext hx? HE HE2 hE0 hE1 Hext
      go_upto_if 41 with fail
      go_cut [7] (fun e' wx => e' = .int .i64 ((if K = 0 then 0 else E : Nat) : Int) ∧ W = wx)
      case first =>
        clear hpr HR2
        cases ext
        · have Hq := Lib.hid (HE4.out rfl)
          clear HE3 HE4
          go_wp2_with fail
          go_meet
          case rel => exact ⟨by rw [Hq.out], rfl⟩
        · obtain ⟨k0, k1, k2⟩ := HE3.out rfl
          have Hk := Lib.hid (show (if K = 0 then 0 else E : Nat) = K + 1 + tw isPl 50 (s.drop (K + 1)) from by rw [if_neg (by omega), k2])
          clear HE3 HE4 k2 hke hel
          generalize (if K = 0 then 0 else E : Nat) = E' at *
          go_wp2_with fail
          go_loopw [7] (fun e' wr => ∃ i : Nat, e' = .int .i64 ((K + 1 + i : Nat) : Int) ∧ K + 1 + i ≤ s.length ∧ i ≤ 50 ∧ i + tw isPl (50 - i) (s.drop (K + 1 + i)) = tw isPl 50 (s.drop (K + 1)) ∧ wr = W) (fun e' _ => s.length - (intOf e').toNat)
          case atStart => exact ⟨0, by go_num, by omega, by omega, by simp, rfl⟩
          case round =>
            obtain ⟨i, rfl, hi1, hi50, hq, rfl⟩ := hrel
            by_cases hlt : K + 1 + i < s.length
            · obtain ⟨x, hx, hsd⟩ := drop_step hlt
              have hg : ∀ h, s[K + 1 + i]'h = x := fun h => by rw [List.getElem?_eq_getElem h] at hx; exact Option.some.inj hx
              by_cases h5 : i < 50
              · rw [hsd, show 50 - i = (50 - (i + 1)) + 1 from by omega] at hq
                have hc := w_bPlain x wr
                cases hxx : isPl x
                · rw [tw_stop hxx] at hq
                  rw [hxx] at hc
                  have Hq := Lib.hid hq
                  clear hq hsd hx hxx
                  go_wp2_with (go_at_call 140; refine hc.mono ?_; rintro e w' ⟨rfl, rfl⟩)
                  go_meet
                  case rel => exact ⟨by rw [Hk.out, ← Hq.out]; simp, rfl⟩
                · rw [tw_go hxx] at hq
                  rw [hxx] at hc
                  have Hq := Lib.hid hq
                  clear hq hsd hx hxx
                  go_wp2_with (go_at_call 140; refine hc.mono ?_; rintro e w' ⟨rfl, rfl⟩)
                  go_roundw
                  case rel => exact ⟨i + 1, by go_num, by omega, by omega, by rw [← Hq.out, show K + 1 + (i + 1) = K + 1 + i + 1 from by omega]; omega, by trivial⟩
                  case measure => simp [intOf]; omega
              · have Hq := Lib.hid (show K + 1 + i = E' from by rw [Hk.out, ← hq, show 50 - i = 0 from by omega]; simp [tw])
                clear hq hsd hx
                go_wp2_with fail
                go_meet
                case rel => exact ⟨by rw [← Hq.out]; go_num, rfl⟩
            · have Hq := Lib.hid (show K + 1 + i = E' from by
                rw [Hk.out, ← hq, drop_end hlt]
                cases h9 : 50 - i <;> simp [tw])
              clear hq
              go_wp2_with fail
              go_meet
              case rel => exact ⟨by rw [← Hq.out]; go_num, rfl⟩
      case rest =>
        obtain ⟨rfl, rfl⟩ := hcut
        clear HE3 HE4
        by_cases hK : K = 0
        · subst hK
          clear hpr
          by_cases hse : s = []
          · have HQ := Lib.hid (show R = .error 8 from by rw [HR2.out, if_pos hse])
            clear HR2
            subst hse
            go_wp2_with fail
            go_ret2
            rw [HQ.out]
            exact ⟨Below.refl _ _, hown, rfl, bx⟩
          · have HQ := Lib.hid (show R = .error 3 from by rw [HR2.out, if_neg hse, if_pos rfl])
            have hne : s.isEmpty = false := by cases s with
              | nil => exact absurd rfl hse
              | cons _ _ => rfl
            clear HR2
            go_wp2_with fail
            go_ret2
            rw [HQ.out]
            exact ⟨Below.refl _ _, hown, rfl, bx⟩
        · have hse : ¬ s = [] := fun e => by subst e; simp at hkl; omega
          have hpr1 := hpr (by omega)
          have HR3 := Lib.hid (show R = if s.drop E = [] ∨ s.drop E = [13] then .error 8
      else if (s.drop E).take 2 = [13, 10] then .ok (hxN (s.take K), E + 2) else .error 3 from by rw [HR2.out, if_neg hse, if_neg hK])
          have sl := fun w => run_sliceT (P := Tryz.prog) 9 Tryz.underlying9 s (E : Int) (by omega) (by omega) w
          have sk := fun w => run_sliceU (P := Tryz.prog) 9 Tryz.underlying9 s (K : Int) (by omega) (by omega) w
          rw [Int.toNat_natCast] at sl sk
          have hpf := fun W => w_HasPrefix (s.drop E) [13, 10] (by rw [List.length_drop]; omega) (by simp) W
          rw [hasP] at hpf
          rw [if_neg hK]
          have hk0 : ((K : Int) == 0) = false := by simp; omega
          clear hpr HR2 hse
          generalize s.drop E = q at *
          generalize hxN (s.take K) = N at *
          generalize s.take K = sK at *
          by_cases hq0 : q = []
          · subst hq0
            have HQ := Lib.hid (show R = .error 8 from by rw [HR3.out, if_pos (.inl rfl)])
            clear HR3
            go_wp2_with fail
            go_ret2
            rw [HQ.out]
            exact ⟨Below.refl _ _, hown, rfl, bx⟩
          · have hq1 : q.isEmpty = false := by cases q with
              | nil => exact absurd rfl hq0
              | cons _ _ => rfl
            cases hq13 : (q == [13])
            · have hq14 : ¬ q = [13] := by simpa using hq13
              cases hq2 : (q.take 2 == [13, 10])
              · have HQ := Lib.hid (show R = .error 3 from by rw [HR3.out, if_neg (by simp [hq0, hq14]), if_neg (by simpa using hq2)])
                rw [hq2] at hpf
                clear HR3 hq0 hq14 hq2
                go_wp2_with (go_at_call 115; refine (hpf _).mono ?_; rintro e w' ⟨rfl, rfl⟩)
                go_ret2
                rw [HQ.out]
                exact ⟨Below.refl _ _, hown, rfl, bx⟩
              · have HQ := Lib.hid (show R = .ok (N, E + 2) from by rw [HR3.out, if_neg (by simp [hq0, hq14]), if_pos (by simpa using hq2)])
                rw [hq2] at hpf
                clear HR3 hq0 hq14 hq2
                by_cases hN : N = 0
                · subst hN
                  have hlg : ¬ 5000 < out.length + 0 := by omega
                  go_wp2_with (first
                    | (go_at_call 115; refine (hpf _).mono ?_; rintro e w' ⟨rfl, rfl⟩)
                    | (go_at_call 141; refine (hpr1 _).mono ?_; rintro e w1 ⟨rfl, hb1⟩
                       have bx1 := bx.keep hb1; have f1 := bx1.free 2; have c1 := bx1.cell (j := 2) rfl
                       have bx2 := bx1.set 2 (.int .i64 0); have f2 := bx2.free 0; have c2 := bx2.cell (j := 0) rfl
                       have bx3 := bx2.set 0 (.func (.func 142) #[] #[])
                       have f3 := bx3.free 0; have c3 := bx3.cell (j := 0) rfl
                       have bx4 := bx3.set 0 (.func (.func 143) #[] #[]); have c4 := bx4.cell (j := 2) rfl; have c5 := bx4.cell (j := 3) rfl))
                  go_region
                  all_goals go_wp2_with fail
                  all_goals go_ret2
                  all_goals
                    rw [HQ.out]
                    refine ⟨Below.drew ((((hb1.mono (Nat.le_of_lt hbl)).setCell (p := ⟨b, 2, none⟩) (Nat.le_refl _) _).setCell (p := ⟨b, 0, none⟩) (Nat.le_refl _) _).setCell (p := ⟨b, 0, none⟩) (Nat.le_refl _) _), OwnL.drew (own_box (own_box (own_box (hown.below hb1 (Nat.le_refl _)) 2 _) 0 _) 0 _), ?_, BoxAt.drew ?_⟩
                    · simp [hlg, show (5000 < out.length) = False from by simp; omega]
                    · simpa [decC] using bx4
                · have hz : ((N : Int) == 0) = false := by simp; omega
                  by_cases hlg : 5000 < out.length + N
                  · skip
                    go_wp2_with (first
                      | (go_at_call 115; refine (hpf _).mono ?_; rintro e w' ⟨rfl, rfl⟩)
                      | (go_at_call 141; refine (hpr1 _).mono ?_; rintro e w1 ⟨rfl, hb1⟩
                         have bx1 := bx.keep hb1; have f1 := bx1.free 2; have c1 := bx1.cell (j := 2) rfl
                         have bx2 := bx1.set 2 (.int .i64 N); have f2 := bx2.free 0; have c2 := bx2.cell (j := 0) rfl
                         have bx3 := bx2.set 0 (.func (.func 142) #[] #[])
                         have c4 := bx3.cell (j := 2) rfl; have c5 := bx3.cell (j := 3) rfl))
                    go_region
                    all_goals go_wp2_with fail
                    all_goals go_ret2
                    all_goals
                      rw [HQ.out]
                      refine ⟨Below.drew (((hb1.mono (Nat.le_of_lt hbl)).setCell (p := ⟨b, 2, none⟩) (Nat.le_refl _) _).setCell (p := ⟨b, 0, none⟩) (Nat.le_refl _) _), OwnL.drew (own_box (own_box (hown.below hb1 (Nat.le_refl _)) 2 _) 0 _), ?_, BoxAt.drew ?_⟩
                      · simp [hlg, show (5000 < out.length) = False from by simp; omega]
                      · simpa [decC, hN] using bx3
                  · skip
                    go_wp2_with (first
                      | (go_at_call 115; refine (hpf _).mono ?_; rintro e w' ⟨rfl, rfl⟩)
                      | (go_at_call 141; refine (hpr1 _).mono ?_; rintro e w1 ⟨rfl, hb1⟩
                         have bx1 := bx.keep hb1; have f1 := bx1.free 2; have c1 := bx1.cell (j := 2) rfl
                         have bx2 := bx1.set 2 (.int .i64 N); have f2 := bx2.free 0; have c2 := bx2.cell (j := 0) rfl
                         have bx3 := bx2.set 0 (.func (.func 142) #[] #[])
                         have c4 := bx3.cell (j := 2) rfl; have c5 := bx3.cell (j := 3) rfl))
                    go_region
                    all_goals go_wp2_with fail
                    all_goals go_ret2
                    all_goals
                      rw [HQ.out]
                      refine ⟨Below.drew (((hb1.mono (Nat.le_of_lt hbl)).setCell (p := ⟨b, 2, none⟩) (Nat.le_refl _) _).setCell (p := ⟨b, 0, none⟩) (Nat.le_refl _) _), OwnL.drew (own_box (own_box (hown.below hb1 (Nat.le_refl _)) 2 _) 0 _), ?_, BoxAt.drew ?_⟩
                      · simp [hlg, show (5000 < out.length) = False from by simp; omega]
                      · simpa [decC, hN] using bx3
            · have HQ := Lib.hid (show R = .error 8 from by rw [HR3.out, if_pos (.inr (by simpa using hq13))])
              clear HR3
              go_wp2_with fail
              go_ret2
              rw [HQ.out]
              exact ⟨Below.refl _ _, hown, rfl, bx⟩
end Go.Proofs.YtfgjbflddabdcaaGreatDoor
