/- Walks: larderref.pad, larderref.DatePrint. -/
import Derived.Test.YtcoghpokkhjhgaaGreatDoorWDate
import Derived.Test.YtcoghpokkhjhgaaGreatDoorSpecs
import Derived.Test.YtcoghpokkhjhgaaGreatDoorWItoa
import Derived.Test.YtcoghpokkhjhgaaGreatDoorBoxAt
namespace Go.Proofs.YtcoghpokkhjhgaaGreatDoor
open Go.RowKit Go.Larder
set_option linter.unusedVariables false
set_option linter.unusedSimpArgs false
/-- a number's digits, padded to k with zeros -/
def padL (n : Int) (k : Nat) : List UInt8 := List.replicate (k - (Lib.decDigits n.toNat).length) 48 ++ Lib.decDigits n.toNat

theorem pad_two (n : Int) (h0 : 0 ≤ n) (h1 : n < 100) : padL n 2 = twoL n := by
  unfold padL twoL
  split
  · rw [dec_lt n h0 (by omega)]; rfl
  · rw [dec_ge n (by omega) h1]; rfl
theorem pad_four (n : Int) (h0 : 1000 ≤ n) (h1 : n ≤ 9999) : padL n 4 = Lib.decDigits n.toNat := by
  unfold padL; rw [dec_four n h0 h1]; rfl

def strLn : Value → Nat
  | .string b => b.size
  | _ => 0
theorem strLn_S (l : List UInt8) : strLn (S l) = l.length := by simp [strLn, S, ByteArray.size]
theorem w_pad (n : Int) (h0 : 0 ≤ n) (h1 : n ≤ 9999) (k : Nat) (hk : k ≤ 4) (w : World) :
    Calls Tryz.prog 105 #[.int .i64 n, .int .i64 k] w fun e w' => e = .returned (S (padL n k)) ∧ Below w.heap.size w w' := by
  have hl : (Lib.decDigits n.toNat).length ≤ 21 := dig_len h0 (by omega)
  have HP := Lib.hid (show padL n k = List.replicate (k - (Lib.decDigits n.toNat).length) 48 ++ Lib.decDigits n.toNat from rfl)
  generalize hg : Lib.decDigits n.toNat = D at hl HP
  have hD := fun w => w_Dig n h0 (by omega) w
  rw [hg] at hD
  clear hg
  go_enter Tryz.func105, Tryz.ntmps105
  go_wp2_with (go_at_call 124; refine Calls.mono (hD _) ?_; rintro e w2 ⟨rfl, hb2⟩)
  go_loop [5] (fun s => ∃ j : Nat, s = S (List.replicate j 48 ++ D) ∧ j ≤ k - D.length) (fun s => k - strLn s)
  case atStart => exact ⟨0, rfl, by omega⟩
  case round =>
    obtain ⟨j, rfl, hj⟩ := hrel
    have hlen : (List.replicate j (48 : UInt8) ++ D).length = j + D.length := by simp
    by_cases hlt : j + D.length < k
    · have hI : ((j + D.length : Nat) : Int) < k := by omega
      go_wp2_with fail
      go_round
      case rel => exact ⟨j + 1, by simp [List.replicate_succ], by omega⟩
      case measure => simp only [strLn_S, List.length_append, List.length_replicate, List.length_cons]; omega
    · have hI : ¬ ((j + D.length : Nat) : Int) < k := by omega
      go_wp2_with fail
      go_ret
      exact ⟨by rw [HP.out, show j = k - D.length by omega]; rfl, hb2⟩

theorem w_pad2 (n : Int) (h0 : 0 ≤ n) (h1 : n < 100) (w : World) :
    Calls Tryz.prog 105 #[.int .i64 n, .int .i64 2] w fun e w' => e = .returned (S (twoL n)) ∧ Below w.heap.size w w' := by
  rw [← pad_two n h0 h1]; exact w_pad n h0 (by omega) 2 (by omega) w
theorem w_pad4 (n : Int) (h0 : 1000 ≤ n) (h1 : n ≤ 9999) (w : World) :
    Calls Tryz.prog 105 #[.int .i64 n, .int .i64 4] w fun e w' => e = .returned (S (Lib.decDigits n.toNat)) ∧ Below w.heap.size w w' := by
  rw [← pad_four n h0 h1]; exact w_pad n (by omega) (by omega) 4 (by omega) w
def padS (n k : Int) : List UInt8 := if k = 4 then Lib.decDigits n.toNat else twoL n
theorem padS2 (n : Int) : padS n 2 = twoL n := rfl
theorem padS4 (n : Int) : padS n 4 = Lib.decDigits n.toNat := rfl
theorem w_padB (n k : Int) (h : k = 2 ∧ 0 ≤ n ∧ n < 100 ∨ k = 4 ∧ 1000 ≤ n ∧ n ≤ 9999) (w : World) :
    Calls Tryz.prog 105 #[.int .i64 n, .int .i64 k] w fun e w' => e = .returned (S (padS n k)) ∧ Below w.heap.size w w' := by
  rcases h with ⟨rfl, h0, h1⟩ | ⟨rfl, h0, h1⟩
  · exact w_pad2 n h0 h1 w
  · exact w_pad4 n h0 h1 w
theorem size_alloc1 (w : World) (o : Obj) : (w.alloc o).heap.size = w.heap.size + 1 := by simp
theorem wk_get (k : Nat) (h : k < 7) : ([S [84, 104, 117], S [70, 114, 105], S [83, 97, 116], S [83, 117, 110], S [77, 111, 110], S [84, 117, 101], S [87, 101, 100]] : List Value)[k]? = some (S (wkD k)) := by
  have : k = 0 ∨ k = 1 ∨ k = 2 ∨ k = 3 ∨ k = 4 ∨ k = 5 ∨ k = 6 := by omega
  rcases this with rfl | rfl | rfl | rfl | rfl | rfl | rfl <;> rfl
theorem mo_get (k : Nat) (h : k < 12) : ([S [74, 97, 110], S [70, 101, 98], S [77, 97, 114], S [65, 112, 114], S [77, 97, 121], S [74, 117, 110], S [74, 117, 108], S [65, 117, 103], S [83, 101, 112], S [79, 99, 116], S [78, 111, 118], S [68, 101, 99]] : List Value)[k]? = some (S (moD k)) := by
  have : k = 0 ∨ k = 1 ∨ k = 2 ∨ k = 3 ∨ k = 4 ∨ k = 5 ∨ k = 6 ∨ k = 7 ∨ k = 8 ∨ k = 9 ∨ k = 10 ∨ k = 11 := by omega
  rcases this with rfl | rfl | rfl | rfl | rfl | rfl | rfl | rfl | rfl | rfl | rfl | rfl <;> rfl
set_option maxHeartbeats 4000000 in
theorem w_DatePrint (n y r : Int) (m : Nat) (h : IsCivil (n / 86400) y m r) (hn0 : 0 ≤ n) (hn : n ≤ 253402300799) (w : World) :
    Calls Tryz.prog 70 #[.int .i64 n] w fun e w' => e = .returned (.tuple #[S (dateL n y m r), .int .i64 0]) ∧ Below w.heap.size w w' := by
  have hq : n / 86400 ≤ 2932896 := by omega
  have hq0 : 0 ≤ n / 86400 := by omega
  have hy0 := h.y0
  have hy1 := h.y1 hq
  have hm1 := h.m1
  have hr0 := h.r0
  have hr1 : r < 31 := by have := h.r1; have := (md_bd y m); omega
  have hCv := Lib.hid h
  clear h
  obtain ⟨k, hk⟩ : ∃ k : Nat, n / 86400 % 7 = k := ⟨(n / 86400 % 7).toNat, by omega⟩
  have hk7 : k < 7 := by omega
  have HE := Lib.hid (show dateL n y m r = wkD k ++ 44 :: 32 :: (twoL (r + 1) ++ 32 :: (moD m ++ 32 :: (Lib.decDigits y.toNat ++ 32 :: (twoL (n / 3600 % 24) ++ 58 :: (twoL (n / 60 % 60) ++ 58 :: (twoL (n % 60) ++ [32, 71, 77, 84])))))) from by
    unfold dateL; rw [hk, show n % 86400 / 3600 = n / 3600 % 24 by omega, show n % 86400 / 60 % 60 = n / 60 % 60 by omega, show n % 86400 % 60 = n % 60 by omega, Int.toNat_natCast]; simp only [List.append_assoc, List.cons_append, List.nil_append])
  have hl1 := dec_two (r + 1) (by omega) (by omega)
  have hl2 := dec_four y (by omega) (by omega)
  have hl3 := dec_two (n / 3600 % 24) (by omega) (by omega)
  have hl4 := dec_two (n / 60 % 60) (by omega) (by omega)
  have hl5 := dec_two (n % 60) (by omega) (by omega)
  have hl6 := wk_len k hk7
  have hl7 := mo_len m hm1
  have hb1 : 0 ≤ n / 3600 % 24 ∧ n / 3600 % 24 < 24 := by omega
  have hb2 : 0 ≤ n / 60 % 60 ∧ n / 60 % 60 < 60 := by omega
  have hb3 : 0 ≤ n % 60 ∧ n % 60 < 60 := by omega
  have gk := wk_get k hk7
  have gm := mo_get m hm1
  have hout : decide (n < 0) = false := by simp; omega
  have hout2 : decide (253402300799 < n) = false := by simp; omega
  go_enter Tryz.func70, Tryz.ntmps70
  go_wp2_with (first
    | (go_at_call 101; refine (w_outside _ _ _ _).mono ?_; rintro e w2 ⟨rfl, rfl⟩)
    | (go_at_call 104; refine Calls.mono (w_CivilR _ _ _ _ hCv.out ?_ _) ?_; omega; rintro e w2 ⟨rfl, hb0⟩
       have bx1 := BoxAt.new w2 [S [84, 104, 117], S [70, 114, 105], S [83, 97, 116], S [83, 117, 110], S [77, 111, 110], S [84, 117, 101], S [87, 101, 100]] 9
       have q1 := bx1.cell gk
       have hA1 := hb0.alloc hb0.size (.cells #[S [84, 104, 117], S [70, 114, 105], S [83, 97, 116], S [83, 117, 110], S [77, 111, 110], S [84, 117, 101], S [87, 101, 100]] 9)
       have bx2 := BoxAt.new (w2.alloc (.cells #[S [84, 104, 117], S [70, 114, 105], S [83, 97, 116], S [83, 117, 110], S [77, 111, 110], S [84, 117, 101], S [87, 101, 100]] 9)) [S [74, 97, 110], S [70, 101, 98], S [77, 97, 114], S [65, 112, 114], S [77, 97, 121], S [74, 117, 110], S [74, 117, 108], S [65, 117, 103], S [83, 101, 112], S [79, 99, 116], S [78, 111, 118], S [68, 101, 99]] 9
       have q2 := bx2.cell gm
       rw [size_alloc1] at q2
       have hB := hA1.alloc hA1.size (.cells #[S [74, 97, 110], S [70, 101, 98], S [77, 97, 114], S [65, 112, 114], S [77, 97, 121], S [74, 117, 110], S [74, 117, 108], S [65, 117, 103], S [83, 101, 112], S [79, 99, 116], S [78, 111, 118], S [68, 101, 99]] 9))
    | (go_at_call 105; refine Calls.mono (w_padB _ _ ?_ _) ?_; omega; rintro e w3 ⟨he, hb3⟩; simp only [padS2, padS4] at he; subst he; have hB := hB.trans (hb3.mono hB.size)))
  go_returns
  refine ⟨by rw [HE.out]; rfl, ?_⟩
  clear bx1 bx2 q1 q2 hA1
  first | exact hB | (simp only [go_sem]; done)

theorem w_DatePrint_out (n : Int) (h : n < 0 ∨ 253402300799 < n) (w : World) :
    Calls Tryz.prog 70 #[.int .i64 n] w fun e w' => e = .returned (.tuple #[S [], .int .i64 1]) ∧ w = w' := by
  have hv := Lib.hid (show (decide (n < 0) || decide (253402300799 < n)) = true from by simpa using h)
  clear h
  go_enter Tryz.func70, Tryz.ntmps70
  go_wp2_with (go_at_call 101; refine (w_outside _ _ _ _).mono ?_; rw [hv.out]; rintro e w2 ⟨rfl, rfl⟩)
  go_returns
  exact ⟨rfl, rfl⟩
theorem w_Print_out (n : Int) (h : n < 0 ∨ 253402300799 < n) (w : World) :
    Calls Tryz.prog 62 #[.int .i64 n] w fun e w' => e = .returned (.tuple #[S [], .int .i64 1]) ∧ w = w' := by
  rcases h with h | h
  · go_enter Tryz.func62, Tryz.ntmps62
    go_wp2_with fail
    go_returns
    exact ⟨rfl, rfl⟩
  · have h0 : 0 ≤ n := by omega
    go_enter Tryz.func62, Tryz.ntmps62
    go_wp2_with fail
    go_returns
    exact ⟨rfl, rfl⟩
end Go.Proofs.YtcoghpokkhjhgaaGreatDoor
