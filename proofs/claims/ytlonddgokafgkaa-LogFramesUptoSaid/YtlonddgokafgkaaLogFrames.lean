/- LogFrames: Frame and Write answer as the reference, where what comes in is of bulk at most 1048576. -/
import Derived.Test.YtlonddgokafgkaaRows
import Derived.Test.YtlonddgokafgkaaFrame
import Derived.Test.YtlonddgokafgkaaWWrite
import Derived.Test.YtlonddgokafgkaaOpen
namespace Go.Proofs.Ytlonddgokafgkaa.logFrames
open Go.RowKit Go.Larder Go.ChangeShapes Go.WideShapes Go.ChangeAt
open Go.ChangeMaps (open_string shut_string)
set_option linter.unusedVariables false
set_option linter.unusedSimpArgs false

theorem w_FrameE (n : Int) (s : List UInt8) (hs : s.length ≤ 140737488351232) (w : World) :
    Calls Try.prog 37 #[.int .i64 n, S s] w (StPost w (frameE n s)) := by
  unfold frameE
  by_cases h1 : n < 0 ∨ 2147483648 < n
  · rw [if_pos h1]
    refine (w_Frame_out n s h1 w).mono ?_
    rintro e w' ⟨rfl, rfl⟩
    exact ⟨rfl, Below.refl _ _⟩
  · rw [if_neg h1]
    obtain ⟨k, rfl⟩ : ∃ k : Nat, n = k := ⟨n.toNat, by omega⟩
    by_cases h2 : 1000 < s.length
    · rw [if_pos h2]
      refine (w_Frame_big k s (by omega) h2 hs w).mono ?_
      rintro e w' ⟨rfl, rfl⟩
      exact ⟨rfl, Below.refl _ _⟩
    · rw [if_neg h2]
      refine (w_Frame k s (by omega) (by omega) w).mono ?_
      rintro e w' ⟨rfl, hb⟩
      exact ⟨rfl, hb⟩

theorem w_FrameER (n : Int) (s : List UInt8) (hs : s.length ≤ 140737488351232) (w : World) :
    Calls Try.prog 38 #[.int .i64 n, S s] w (StPost w (frameE n s)) := by
  unfold frameE
  by_cases h1 : n < 0 ∨ 2147483648 < n
  · rw [if_pos h1]
    refine (w_FrameR_out n s h1 w).mono ?_
    rintro e w' ⟨rfl, rfl⟩
    exact ⟨rfl, Below.refl _ _⟩
  · rw [if_neg h1]
    obtain ⟨k, rfl⟩ : ∃ k : Nat, n = k := ⟨n.toNat, by omega⟩
    by_cases h2 : 1000 < s.length
    · rw [if_pos h2]
      refine (w_FrameR_big k s (by omega) h2 hs w).mono ?_
      rintro e w' ⟨rfl, rfl⟩
      exact ⟨rfl, Below.refl _ _⟩
    · rw [if_neg h2]
      refine (w_FrameR k s (by omega) (by omega) w).mono ?_
      rintro e w' ⟨rfl, hb⟩
      exact ⟨rfl, hb⟩

def resT (r : Except Int (List UInt8)) : List UInt8 × Int := match r with | .error n => ([], n) | .ok F => (F, 0)
theorem flat {w w' : World} {r : Except Int (List UInt8)} {e : Ending} (h : StPost w r e w') : e = .returned (.tuple #[S (resT r).1, .int .i64 (resT r).2]) ∧ Below w.heap.size w w' := by
  cases r with
  | error n => exact h
  | ok F => exact h

theorem sum_bounds : ∀ (l : List (List UInt8)), l.length ≤ (l.map (fun s => s.length + 1)).sum ∧ ∀ x ∈ l, x.length ≤ (l.map (fun s => s.length + 1)).sum
  | [] => by simp
  | y :: l => by
    obtain ⟨h1, h2⟩ := sum_bounds l
    refine ⟨by simp; omega, fun x hx => ?_⟩
    rcases List.mem_cons.1 hx with rfl | hx
    · simp; omega
    · have := h2 x hx; simp; omega

theorem walkL (n : Int) (hn : -9223372036854775808 ≤ n ∧ n ≤ 9223372036854775807) (s : List UInt8) (hs : s.length ≤ 1048576) (l : List (List UInt8)) (A : Option Addr) (c : Nat) (hlc : l.length ≤ c)
    (hb : (l.map (fun s => s.length + 1)).sum ≤ 1048576) (_ : ∀ x ∈ l, True) (w : World) (hr : ReadL encS w w.heap.size A l) :
    Calls Try.prog 12 #[.int .i64 n, S s, .slice A l.length c] w fun e w' => e = .returned (.bool true) ∧ Below w.heap.size w w' := by
  have hl := (sum_bounds l).1
  have hx : ∀ x ∈ l, x.length ≤ 140737488351232 := fun x h => by have := (sum_bounds l).2 x h; omega
  have hl2 : l.length ≤ 1048576 := by omega
  clear hl
  go_enter Try.func12, Try.ntmps12
  go_wp2_with fail
  refine (w_FrameE n s (by omega) _).mono ?_
  intro e w1 hp1
  obtain ⟨rfl, hb1⟩ := flat hp1
  clear hp1
  obtain ⟨F, m, hF⟩ : ∃ F m, resT (frameE n s) = (F, m) := ⟨_, _, rfl⟩
  rw [hF]
  have HF := Lib.hid hF
  clear hF
  go_wp2_with fail
  refine (w_FrameER n s (by omega) _).mono ?_
  intro e w2 hp2
  obtain ⟨rfl, hb2⟩ := flat hp2
  clear hp2
  rw [HF.out]
  have hb12 := hb1.trans (hb2.mono hb1.size)
  have hr2 := (hr.below hb12 (Nat.le_refl _)).more hb12.size
  go_wp2_with fail
  refine (w_Write l hl2 hx A c _ hr2).mono ?_
  intro e w3 hp3
  obtain ⟨rfl, hb3⟩ := flat hp3
  clear hp3
  obtain ⟨G, q, hG⟩ : ∃ G q, resT (writeL l) = (G, q) := ⟨_, _, rfl⟩
  rw [hG]
  have HG := Lib.hid hG
  clear hG
  have hb13 := hb12.trans (hb3.mono hb12.size)
  have hr3 := (hr.below hb13 (Nat.le_refl _)).more hb13.size
  go_wp2_with fail
  refine (w_WriteR l hl2 hx A c _ hr3).mono ?_
  intro e w4 hp4
  obtain ⟨rfl, hb4⟩ := flat hp4
  clear hp4
  rw [HG.out]
  go_wp2_with fail
  go_ret
  exact ⟨by simp, hb13.trans (hb4.mono hb13.size)⟩

theorem own : ownKnob Try.prog.godebug = none := by kernel_rfl
theorem laidOut : laidOutB Try.prog = true := by kernel_rfl
set_option maxRecDepth 100000 in
theorem lifted (os : Os) (started : os.Started) (H : Type) (enc : TypeId × Value → H) (F : Stop.Interp) :
    ReturnsInHanded {} Try.checked os 12 .any ((Rows.OpenSpec.upto Rows.logFramesSpec).pre6 enc Try.prog Try.f12 Rows.logFramesUptoRow.domain false) (((Rows.OpenSpec.upto Rows.logFramesSpec).at F).post enc Try.prog Try.f12 false true false false) := by
  refine cond_shaped (C := Try.checked) (s := Rows.OpenSpec.upto Rows.logFramesSpec) (k := Rows.uptoSmall) rfl own started (by kernel_rfl) Try.func12
    (OpenSpec.witness (enc := enc) (C := Try.checked) (s := Rows.OpenSpec.upto Rows.logFramesSpec) (k := Rows.uptoSmall) rfl false ⟨#[], #[.int .i64 0, .string ByteArray.empty, .slice none 0 0], []⟩ 8 (by kernel_rfl) (by kernel_rfl) (by kernel_rfl)
      (x := ([.lit (.int .i64 0), .lit (.string []), .nil], [], [])) (by kernel_rfl) rfl (by kernel_rfl)) ?_
  intro W base args ds gs before hval0 hW hcnd hk0 hsh _
  have hval : ∀ (j : Nat) t v, Try.f12.params[j]? = some t → args[j]? = some v → Value.okWide Try.prog W .any base t v := hval0
  have hW' := hW
  obtain ⟨p, q, hA0, hV, rfl, hfz, hnd⟩ := hW
  have hA : DataW.TrodAll enc Try.prog W 0 (fun _ => true) true Try.f12.params.toList args.toList ds p := hA0
  rw [Try.params12] at hA hval
  obtain ⟨v0, vs0, d0, ds0, p0, q0, hargs, rfl, rfl, h0, r0⟩ := trodAll_cons hA
  obtain ⟨v1, vs1, d1, ds1, p1, q1, rfl, rfl, rfl, h1, r1⟩ := trodAll_cons r0
  obtain ⟨v2, vs2, d2, ds2, p2, q2, rfl, rfl, rfl, h2, r2⟩ := trodAll_cons r1
  obtain ⟨rfl, rfl, rfl⟩ := trodAll_nil r2
  obtain rfl : args = #[v0, v1, v2] := by cases args; simp_all
  obtain ⟨rfl, rfl⟩ := trodVars_none hV
  simp only [List.append_nil] at hk0
  have hbulk := of_decide_eq_true hk0
  simp only [Rows.uptoBulkAll] at hbulk
  have k0 := h0
  have lt0 : ∀ x ∈ p0, x.block < W.heap.size := by obtain ⟨m, hm⟩ := k0; exact DataW.trod_lt m _ _ _ hm
  obtain ⟨a0, rfl, rfl, rfl, w0⟩ := open_int Try.underlying3 (hval 0 3 v0 rfl rfl) h0
  have k1 := h1
  have lt1 : ∀ x ∈ p1, x.block < W.heap.size := by obtain ⟨m, hm⟩ := k1; exact DataW.trod_lt m _ _ _ hm
  obtain ⟨s1, rfl, rfl, rfl, w1⟩ := open_string Try.underlying9 (hval 1 9 v1 rfl rfl) h1
  obtain ⟨⟨l1⟩⟩ := s1
  have b1 : l1.length ≤ 1048576 := by simp only [Rows.uptoBulk] at hbulk; omega
  have k2 := h2
  have lt2 : ∀ x ∈ p2, x.block < W.heap.size := by obtain ⟨m, hm⟩ := k2; exact DataW.trod_lt m _ _ _ hm
  obtain ⟨A2, l2, c2, rfl, lc2, cm2, rd2, ok2, dd2⟩ := open_list (enc := enc) (OpenE.string Try.underlying9 (by kernel_rfl)) Try.underlying38 (hval 2 38 v2 rfl rfl) h2
  have bk2 := bulk_list (enc := enc) (OpenE.string Try.underlying9 (by kernel_rfl)) dd2
  have b2 : (l2.map (fun s => s.length + 1)).sum ≤ 1048576 := by simp only [Rows.uptoBulk] at hbulk; omega
  clear hA0 hval0
  refine (walkL a0 (bounds_i64 w0) l1 b1 l2 A2 c2 lc2 b2 ok2 W rd2).mono fun e W' ⟨he, bel⟩ => ?_
  subst he
  exact ⟨_, rfl, _, _, _, [], _, [], hW', trodAll_mk1 (shut_bool Try.underlying4 _), (trodAll_cons_mk (Below.trod laidOut (by kernel_rfl) (of_decide_eq_true (by kernel_rfl)) k0 bel lt0) (trodAll_cons_mk (Below.trod laidOut (by kernel_rfl) (of_decide_eq_true (by kernel_rfl)) k1 bel lt1) (trodAll_cons_mk (Below.trod laidOut (by kernel_rfl) (of_decide_eq_true (by kernel_rfl)) k2 bel lt2) trodAll_mk0))), rfl, bel.frame _, fun h => by cases h⟩

/-- The statement. -/
theorem proved : Rows.LogFramesUptoSaid :=
  OpenClaim.holds_of_cond 12 Try.f12 rfl rfl rfl rfl rfl rfl rfl ⟨rfl, rfl, rfl, rfl, rfl⟩ rfl rfl rfl rfl rfl (by kernel_rfl) Try.func12 (by kernel_rfl)
    (of_decide_eq_true (by kernel_rfl)) (by unfold Func.isWrapper; first | (rw [if_pos (by decide +kernel)]; kernel_rfl) | (rw [if_neg (by decide +kernel)]; exact ⟨rfl, rfl⟩))
    (fun os started H enc _ F => lifted os started H enc F)
#print axioms proved
end Go.Proofs.Ytlonddgokafgkaa.logFrames
