/- Walks: messages, read: fields and a body: the program's, the reference's. -/
import Derived.Test.YtfgjbflddabdcaaGreatDoorSpecs
import Derived.Test.YtfgjbflddabdcaaGreatDoorWDcW
import Derived.Test.YtfgjbflddabdcaaGreatDoorWChB
import Derived.Test.YtfgjbflddabdcaaGreatDoorWKindR
import Derived.Test.YtfgjbflddabdcaaGreatDoorWFpR
import Derived.Test.YtfgjbflddabdcaaGreatDoorWEv
import Derived.Deep.RegionHeld3
namespace Go.Proofs.YtfgjbflddabdcaaGreatDoor
open Go.RowKit Go.Larder
set_option linter.unusedVariables false
set_option linter.unusedSimpArgs false
def MrOut (W : World) (b : Nat) (req : Bool) (m : List UInt8) (code : Int) (R : Except Int (List Fld × List UInt8 × Int)) (e : Ending) (W' : World) : Prop :=
  Below b W W' ∧ match R with
    | .error n => e = .returned (.tuple #[S [], .int .i64 0, .int .i64 n])
    | .ok (l, body, n) => e = .returned (.tuple #[S body, .int .i64 n, .int .i64 0]) ∧ ∃ A c, BoxAt W' b 43 [.bool req, S m, .int .i64 code, .slice A l.length c] ∧ OwnL encF W' (b + 1) 55 A c l
theorem own_boxF {W : World} {b B c : Nat} {A : Option Addr} {l : List Fld} (h : OwnL encF W B 55 A c l) (hb : b < B) (j : Nat) (v : Value) : OwnL encF (W.setCell ⟨b, j, none⟩ v) B 55 A c l :=
  h.keep fun g hg => heap_setCell_other _ _ _ _ (by have := (h.lt g hg).1; show g.block ≠ b; omega)
set_option maxHeartbeats 8000000 in
set_option maxRecDepth 100000 in
theorem mr_read (req : Bool) (m : List UInt8) (code : Int) (s : List UInt8) (hs : s.length ≤ 1048576) (b : Nat) (A0 : Option Addr) (n0 c0 : Nat) (W : World) (bx : BoxAt W b 43 [.bool req, S m, .int .i64 code, .slice A0 n0 c0]) (hAll : ∀ W', Below b W W' → ML W' ∧ EV W' ∧ PW W') :
    Calls Tryz.prog 24 #[.pointer (some ⟨b, 0, none⟩), S s] W (MrOut W b req m code (mrE req m code s)) := by
  have hbl := bx.lt
  have hM := (hAll W (Below.refl _ _)).1
  have hfp := w_FParse s hs W hM
  cases hf : fpE s with
  | error n =>
    rw [show mrE req m code s = .error n from by unfold mrE; rw [hf]]
    have hz : (n == 0) = false := by have := fpE_err hf; simpa using this
    rw [hf] at hfp
    clear hf
    go_enter Tryz.func24, Tryz.ntmps24
    go_wp2_with (go_at_call 47; refine hfp.mono ?_; rintro e w1 ⟨rfl, hb1⟩)
    go_ret3
    exact ⟨hb1.mono (Nat.le_of_lt hbl), rfl⟩
  | ok p =>
    obtain ⟨l, k⟩ := p
    have hk := fpE_len hf
    have hj : (l.map (fun f => f.1.length + f.2.length + 3)).sum ≤ 1048576 := Nat.le_trans (fpE_sum hf) hs
    obtain ⟨R, hR⟩ : ∃ R, mrE req m code s = R := ⟨_, rfl⟩
    rw [hR]
    have hR2 : (match mrB s.length k (kindE req m code l) (s.drop k) with
      | .error e => .error e
      | .ok (b, n) => Except.ok (l, b, n) : Except Int (List Fld × List UInt8 × Int)) = R := by
      rw [← hR]
      unfold mrE
      rw [hf]
      simp only
      cases mrB s.length k (kindE req m code l) (s.drop k) <;> rfl
    rw [hf] at hfp
    clear hf hR
    have sl := fun w => run_sliceT (P := Tryz.prog) 9 Tryz.underlying9 s (k : Int) (by omega) (by omega) w
    rw [Int.toNat_natCast] at sl
    have hrl : (s.drop k).length = s.length - k := List.length_drop
    have hkd := fun A c W hrW hEW hPW => w_Kind req m code l hj A c W hrW hEW hPW
    have hkc := kindE_cases req m code l
    generalize kindE req m code l = K at *
    generalize s.drop k = rest at *
    obtain ⟨k1, k2, k3⟩ := K
    simp only at hkd hkc
    have HR := Lib.hid hR2
    clear hR2
    go_enter Tryz.func24, Tryz.ntmps24
    go_wp2_with fail
    refine hfp.mono ?_
    rintro e w1 ⟨A, c, rfl, ho1, hb1⟩
    have bx1 := bx.keep hb1
    have c3 := bx1.cell (j := 3) rfl
    have f3 := bx1.free 3
    have bx2 := bx1.set 3 (.slice A l.length c)
    have ho2 := own_boxF ho1 hbl 3 (.slice A l.length c)
    have hB2 := (hb1.mono (Nat.le_of_lt hbl)).setCell (p := ⟨b, 3, none⟩) (Nat.le_refl _) (.slice A l.length c)
    have hA2 := hAll _ hB2
    clear hfp bx bx1 ho1 hb1
    go_wp2_with fail
    change Code.wp _ _ _ _ (w1.setCell ⟨b, 3, none⟩ (.slice A l.length c))
    generalize hw2 : w1.setCell ⟨b, 3, none⟩ (.slice A l.length c) = w2 at *
    clear hw2 c3 f3
    simp only [List.set_cons_succ, List.set_cons_zero] at bx2
    have p0 := bx2.drew.cell (j := 0) rfl
    have p1 := bx2.drew.cell (j := 1) rfl
    have p2 := bx2.drew.cell (j := 2) rfl
    have hk2 := hkd A c w2.drew ho2.drew.read hA2.2.1 hA2.2.2
    clear hkd
    go_region_held3 (fun w' => w'.cell? ⟨b, 0, none⟩ = some (.bool req) ∧ w'.cell? ⟨b, 1, none⟩ = some (S m) ∧ w'.cell? ⟨b, 2, none⟩ = some (.int .i64 code)) ((first | exact ⟨p0, p1, p2⟩ | exact ⟨q0, q1, q2⟩)) ((go_at_call 33; refine hk2.mono ?_; rintro e w3 ⟨rfl, hb3⟩; have bx3 := bx2.drew.keep hb3; have q0 := bx3.cell (j := 0) rfl; have q1 := bx3.cell (j := 1) rfl; have q2 := bx3.cell (j := 2) rfl))
    have hB3 := hB2.drew.trans (hb3.mono (Nat.le_of_lt bx2.lt))
    have hA3 := hAll _ hB3
    have ho3 := ho2.drew.below hb3 (Nat.le_refl _)
    have hr3 := ho3.base_le (show b + 1 ≤ W.heap.size from hbl)
    clear hk2 p0 p1 p2 q0 q1 q2 bx2 ho2 hA2 hB2 hb3 ho3
    rcases hkc with h | h | ⟨n, n0, n1, h⟩ | h | h
    · have hz : (k3 == 0) = false := by simpa using h
      have HE := Lib.hid (show R = .error k3 from by rw [← HR.out, mrB_e h])
      clear h HR
      go_wp2_with fail
      go_ret3
      rw [HE.out]
      exact ⟨hB3, rfl⟩
    all_goals
      injection h with e1 e2
      injection e2 with e2 e3
      subst e1 e2 e3
    · have HE := Lib.hid (show R = .ok (l, [], (k : Int)) from by rw [← HR.out, mrB_1])
      clear HR
      go_wp2_with fail
      go_ret3
      rw [HE.out]
      exact ⟨hB3, rfl, A, c, bx3, hr3⟩
    · by_cases hte : (rest.length : Int) < k2
      · have HE := Lib.hid (show R = .error 8 from by rw [← HR.out, mrB_2, if_pos hte])
        clear HR
        go_wp2_with fail
        go_ret3
        rw [HE.out]
        exact ⟨hB3, rfl⟩
      · have sk := fun w => run_sliceU (P := Tryz.prog) 9 Tryz.underlying9 rest k2 (by omega) (by omega) w
        have HE := Lib.hid (show R = .ok (l, rest.take k2.toNat, (k : Int) + k2) from by rw [← HR.out, mrB_2, if_neg hte])
        clear HR
        generalize rest.take k2.toNat = q at *
        go_wp2_with fail
        go_ret3
        rw [HE.out]
        exact ⟨hB3, rfl, A, c, bx3, hr3⟩
    · have hde := dc_Decode rest (by omega) w3 hA3.1
      have hbd := backE_bd rest
      have HR2 := Lib.hid (show R = if (backE rest).2.2 = 0 then .ok (l, (backE rest).1, (k : Int) + (backE rest).2.1) else .error (backE rest).2.2 from by
        rw [← HR.out, mrB_3]; by_cases hq : (backE rest).2.2 = 0 <;> simp [hq])
      clear HR
      generalize backE rest = B at *
      obtain ⟨B1, B2, B3⟩ := B
      simp only at hde hbd
      by_cases hz3 : B3 = 0
      · subst hz3
        have HE := Lib.hid (show R = .ok (l, B1, (k : Int) + B2) from by rw [HR2.out]; rfl)
        clear HR2
        go_wp2_with fail
        refine hde.mono ?_
        rintro e w4 ⟨rfl, hb4⟩
        go_wp2_with fail
        go_ret3
        rw [HE.out]
        exact ⟨hB3.trans (hb4.mono (Nat.le_of_lt bx3.lt)), rfl, A, c, bx3.keep hb4, hr3.below hb4 (Nat.le_refl _)⟩
      · have HE := Lib.hid (show R = .error B3 from by rw [HR2.out, if_neg hz3])
        have hzz : (B3 == 0) = false := by simpa using hz3
        clear HR2
        go_wp2_with fail
        refine hde.mono ?_
        rintro e w4 ⟨rfl, hb4⟩
        go_wp2_with fail
        go_ret3
        rw [HE.out]
        exact ⟨hB3.trans (hb4.mono (Nat.le_of_lt bx3.lt)), rfl⟩
    · by_cases hte : 5000 < rest.length
      · have HE := Lib.hid (show R = .error 2 from by rw [← HR.out, mrB_4, if_pos hte])
        clear HR
        go_wp2_with fail
        go_ret3
        rw [HE.out]
        exact ⟨hB3, rfl⟩
      · have HE := Lib.hid (show R = .ok (l, rest, (s.length : Int)) from by rw [← HR.out, mrB_4, if_neg hte])
        clear HR
        go_wp2_with fail
        go_ret3
        rw [HE.out]
        exact ⟨hB3, rfl, A, c, bx3, hr3⟩
theorem mr_none (n : Int) (w : World) : Calls Tryz.prog 50 #[.int .i64 n] w fun e w' => e = .returned (.tuple #[.slice none 0 0, S [], .int .i64 0, .int .i64 n]) ∧ w = w' := by
  go_enter Tryz.func50, Tryz.ntmps50
  go_wp2_with fail
  ((try simp only [Exit.inBlock, Exit.then]); refine bodyPost_ret (results_tmp4 rfl _ _ _) rfl ?_)
  exact ⟨rfl, rfl⟩
def MoOut (W : World) (R : Except Int (List Fld × List UInt8 × Int)) (e : Ending) (W' : World) : Prop :=
  Below W.heap.size W W' ∧ match R with
    | .error n => e = .returned (.tuple #[.slice none 0 0, S [], .int .i64 0, .int .i64 n])
    | .ok (l, body, n) => ∃ A c, e = .returned (.tuple #[.slice A l.length c, S body, .int .i64 n, .int .i64 0]) ∧ OwnL encF W' W.heap.size 55 A c l
set_option maxHeartbeats 8000000 in
set_option maxRecDepth 100000 in
theorem mr_of (s : List UInt8) (hs : s.length ≤ 1048576) (req : Bool) (m : List UInt8) (code : Int) (W : World) (hM : ML W) :
    Calls Tryz.prog 26 #[S s, .bool req, S m, .int .i64 code] W (MoOut W (mrE req m code s)) := by
  have hfp := w_FParseR s hs W hM
  cases hf : fpE s with
  | error n =>
    rw [show mrE req m code s = .error n from by unfold mrE; rw [hf]]
    have hz : (n == 0) = false := by have := fpE_err hf; simpa using this
    rw [hf] at hfp
    clear hf
    go_enter Tryz.func26, Tryz.ntmps26
    go_wp2_with (first
      | (go_at_call 51; refine hfp.mono ?_; rintro e w1 ⟨rfl, hb1⟩)
      | (go_at_call 50; refine (mr_none _ _).mono ?_; rintro e w' ⟨rfl, rfl⟩))
    ((try simp only [Exit.inBlock, Exit.then]); refine bodyPost_ret (results_tmp4 rfl _ _ _) rfl ?_)
    exact ⟨hb1, rfl⟩
  | ok p =>
    obtain ⟨l, k⟩ := p
    have hk := fpE_len hf
    have hj : (l.map (fun f => f.1.length + f.2.length + 3)).sum ≤ 1048576 := Nat.le_trans (fpE_sum hf) hs
    obtain ⟨R, hR⟩ : ∃ R, mrE req m code s = R := ⟨_, rfl⟩
    rw [hR]
    have hR2 : (match mrB s.length k (kindE req m code l) (s.drop k) with
      | .error e => .error e
      | .ok (b, n) => Except.ok (l, b, n) : Except Int (List Fld × List UInt8 × Int)) = R := by
      rw [← hR]
      unfold mrE
      rw [hf]
      simp only
      cases mrB s.length k (kindE req m code l) (s.drop k) <;> rfl
    rw [hf] at hfp
    clear hf hR
    have sl := fun w => run_sliceT (P := Tryz.prog) 9 Tryz.underlying9 s (k : Int) (by omega) (by omega) w
    rw [Int.toNat_natCast] at sl
    have hrl : (s.drop k).length = s.length - k := List.length_drop
    have hkd := fun A c W hrW => w_KindR req m code l hj A c W hrW
    have hkc := kindE_cases req m code l
    generalize kindE req m code l = K at *
    generalize s.drop k = rest at *
    obtain ⟨k1, k2, k3⟩ := K
    simp only at hkd hkc
    have HR := Lib.hid hR2
    clear hR2
    go_enter Tryz.func26, Tryz.ntmps26
    go_wp2_with fail
    refine hfp.mono ?_
    rintro e w1 ⟨A, c, rfl, ho1, hb1⟩
    have hk2 := hkd A c w1 ho1.read
    clear hkd hfp
    go_wp2_with fail
    refine hk2.mono ?_
    rintro e w3 ⟨rfl, hb3⟩
    have hB3 := hb1.trans (hb3.mono hb1.size)
    have hM3 := hM.keep hB3
    have hr3 := ho1.below hb3 (Nat.le_refl _)
    clear hk2 ho1 hb1 hb3
    rcases hkc with h | h | ⟨n, n0, n1, h⟩ | h | h
    · have hz : (k3 == 0) = false := by simpa using h
      have HE := Lib.hid (show R = .error k3 from by rw [← HR.out, mrB_e h])
      clear h HR
      go_wp2_with (go_at_call 50; refine (mr_none _ _).mono ?_; rintro e w' ⟨rfl, rfl⟩)
      ((try simp only [Exit.inBlock, Exit.then]); refine bodyPost_ret (results_tmp4 rfl _ _ _) rfl ?_)
      rw [HE.out]
      exact ⟨hB3, rfl⟩
    all_goals
      injection h with e1 e2
      injection e2 with e2 e3
      subst e1 e2 e3
    · have HE := Lib.hid (show R = .ok (l, [], (k : Int)) from by rw [← HR.out, mrB_1])
      clear HR
      go_wp2_with fail
      ((try simp only [Exit.inBlock, Exit.then]); refine bodyPost_ret (results_tmp4 rfl _ _ _) rfl ?_)
      rw [HE.out]
      exact ⟨hB3, A, c, rfl, hr3⟩
    · by_cases hte : (rest.length : Int) < k2
      · have HE := Lib.hid (show R = .error 8 from by rw [← HR.out, mrB_2, if_pos hte])
        clear HR
        go_wp2_with (go_at_call 50; refine (mr_none _ _).mono ?_; rintro e w' ⟨rfl, rfl⟩)
        ((try simp only [Exit.inBlock, Exit.then]); refine bodyPost_ret (results_tmp4 rfl _ _ _) rfl ?_)
        rw [HE.out]
        exact ⟨hB3, rfl⟩
      · have sk := fun w => run_sliceU (P := Tryz.prog) 9 Tryz.underlying9 rest k2 (by omega) (by omega) w
        have HE := Lib.hid (show R = .ok (l, rest.take k2.toNat, (k : Int) + k2) from by rw [← HR.out, mrB_2, if_neg hte])
        clear HR
        generalize rest.take k2.toNat = q at *
        go_wp2_with fail
        go_region
        all_goals go_wp2_with fail
        all_goals ((try simp only [Exit.inBlock, Exit.then]); refine bodyPost_ret (results_tmp4 rfl _ _ _) rfl ?_)
        all_goals rw [HE.out]
        all_goals exact ⟨hB3.drew, A, c, rfl, hr3⟩
    · have hde := ch_back rest (by omega) w3 hM3
      have hbd := backE_bd rest
      have HR2 := Lib.hid (show R = if (backE rest).2.2 = 0 then .ok (l, (backE rest).1, (k : Int) + (backE rest).2.1) else .error (backE rest).2.2 from by
        rw [← HR.out, mrB_3]; by_cases hq : (backE rest).2.2 = 0 <;> simp [hq])
      clear HR
      generalize backE rest = B at *
      obtain ⟨B1, B2, B3⟩ := B
      simp only [bkV] at hde hbd
      by_cases hz3 : B3 = 0
      · subst hz3
        have HE := Lib.hid (show R = .ok (l, B1, (k : Int) + B2) from by rw [HR2.out]; rfl)
        clear HR2
        go_wp2_with fail
        refine hde.mono ?_
        rintro e w4 ⟨rfl, hb4⟩
        go_wp2_with fail
        ((try simp only [Exit.inBlock, Exit.then]); refine bodyPost_ret (results_tmp4 rfl _ _ _) rfl ?_)
        rw [HE.out]
        exact ⟨hB3.trans (hb4.mono hB3.size), A, c, rfl, hr3.below hb4 (Nat.le_refl _)⟩
      · have HE := Lib.hid (show R = .error B3 from by rw [HR2.out, if_neg hz3])
        have hzz : (B3 == 0) = false := by simpa using hz3
        clear HR2
        go_wp2_with (first
          | (go_at_call 52; refine hde.mono ?_; rintro e w4 ⟨rfl, hb4⟩)
          | (go_at_call 50; refine (mr_none _ _).mono ?_; rintro e w' ⟨rfl, rfl⟩))
        ((try simp only [Exit.inBlock, Exit.then]); refine bodyPost_ret (results_tmp4 rfl _ _ _) rfl ?_)
        rw [HE.out]
        exact ⟨hB3.trans (hb4.mono hB3.size), rfl⟩
    · by_cases hte : 5000 < rest.length
      · have HE := Lib.hid (show R = .error 2 from by rw [← HR.out, mrB_4, if_pos hte])
        clear HR
        go_wp2_with (go_at_call 50; refine (mr_none _ _).mono ?_; rintro e w' ⟨rfl, rfl⟩)
        ((try simp only [Exit.inBlock, Exit.then]); refine bodyPost_ret (results_tmp4 rfl _ _ _) rfl ?_)
        rw [HE.out]
        exact ⟨hB3, rfl⟩
      · have HE := Lib.hid (show R = .ok (l, rest, (s.length : Int)) from by rw [← HR.out, mrB_4, if_neg hte])
        clear HR
        go_wp2_with fail
        ((try simp only [Exit.inBlock, Exit.then]); refine bodyPost_ret (results_tmp4 rfl _ _ _) rfl ?_)
        rw [HE.out]
        exact ⟨hB3, A, c, rfl, hr3⟩
end Go.Proofs.YtfgjbflddabdcaaGreatDoor
