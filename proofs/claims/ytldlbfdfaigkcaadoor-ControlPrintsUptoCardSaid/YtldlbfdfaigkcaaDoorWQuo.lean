/- Walks: quoted texts, the program's. -/
import Derived.Test.YtldlbfdfaigkcaaDoorChecked
import Derived.Test.YtldlbfdfaigkcaaDoorSpecQuo
namespace Go.Proofs.YtldlbfdfaigkcaaDoor
open Go.RowKit Go.Larder
set_option linter.unusedVariables false
set_option linter.unusedSimpArgs false

theorem q_isPlain (c : UInt8) (w : World) :
    Calls Tryd.prog 135 #[.int .u8 c.toNat] w fun e w' => e = .returned (.bool (isPl c)) ∧ w = w' := by
  have key : ∀ b, b = isPl c → (Ending.returned (.bool b) = .returned (.bool (isPl c)) ∧ w = w) := fun b h => ⟨ret_bool h, rfl⟩
  by_cases h1 : 32 ≤ (c.toNat : Int) <;> by_cases h2 : (c.toNat : Int) ≤ 126 <;> cases h3 : ((c.toNat : Int) == 9) <;>
    (go_enter Tryd.func135, Tryd.ntmps135
     go_wp2
     go_ret
     refine ⟨ret_bool ?_, rfl⟩
     simp at h1 h2 h3
     simp [isPl, h1, h2, h3]
     try omega)

theorem q_outside (n lo hi : Int) (w : World) :
    Calls Tryd.prog 40 #[.int .i64 n, .int .i64 lo, .int .i64 hi] w fun e w' => e = .returned (.bool (decide (n < lo) || decide (hi < n))) ∧ w = w' := by
  by_cases h : n < lo
  · have H := Lib.hid (show decide (n < lo) = true from by simpa using h)
    go_enter Tryd.func40, Tryd.ntmps40
    go_wp2
    go_ret
    exact ⟨ret_bool (by rw [H.out]; rfl), rfl⟩
  · have H := Lib.hid (show decide (n < lo) = false from by simpa using h)
    go_enter Tryd.func40, Tryd.ntmps40
    go_wp2
    go_ret
    exact ⟨ret_bool (by rw [H.out]; rfl), rfl⟩

theorem q_plainR (l : List UInt8) (hl : l.length ≤ 140737488351232) (w : World) :
    Calls Tryd.prog 74 #[S l] w fun e w' => e = .returned (.bool (l.all isPl)) ∧ w = w' := by
  go_enter Tryd.func74, Tryd.ntmps74
  go_wp2_with fail
  go_loop [6] (fun v => ∃ k : Nat, v = .int .i64 k ∧ k ≤ l.length ∧ (l.drop k).all isPl = l.all isPl) (fun v => l.length - (intOf v).toNat)
  case atStart => exact ⟨0, rfl, by omega, rfl⟩
  case round =>
    obtain ⟨k, rfl, hk, hd⟩ := hrel
    have Hd := Lib.hid hd; clear hd
    by_cases hlt : k < l.length
    · obtain ⟨x, hx, hs⟩ := drop_step hlt
      have hg : ∀ h, l[k]'h = x := fun h => by rw [List.getElem?_eq_getElem h] at hx; exact Option.some.inj hx
      have Hs := Lib.hid hs; clear hs hx
      cases h9 : ((x.toNat : Int) == 9)
      · by_cases h1 : (x.toNat : Int) < 32
        · have Hp := Lib.hid (show isPl x = false from by simp at h9; simp [isPl, h9]; omega)
          go_wp2_with (go_at_call 40; refine (q_outside _ _ _ _).mono ?_; rintro e w' ⟨rfl, rfl⟩)
          go_ret
          exact ⟨ret_bool (by rw [← Hd.out, Hs.out]; simp [Hp.out]), rfl⟩
        · by_cases h2 : 126 < (x.toNat : Int)
          · have Hp := Lib.hid (show isPl x = false from by simp at h9; simp [isPl, h9]; omega)
            go_wp2_with (go_at_call 40; refine (q_outside _ _ _ _).mono ?_; rintro e w' ⟨rfl, rfl⟩)
            go_ret
            exact ⟨ret_bool (by rw [← Hd.out, Hs.out]; simp [Hp.out]), rfl⟩
          · have Hp := Lib.hid (show isPl x = true from by simp [isPl]; omega)
            go_wp2_with (go_at_call 40; refine (q_outside _ _ _ _).mono ?_; rintro e w' ⟨rfl, rfl⟩)
            go_round
            case rel => exact ⟨k + 1, by go_num, by omega, by rw [← Hd.out, Hs.out]; simp [Hp.out]⟩
            case measure => simp [intOf]; omega
      · have Hp := Lib.hid (show isPl x = true from by simp [isPl, h9])
        go_wp2_with fail
        go_round
        case rel => exact ⟨k + 1, by go_num, by omega, by rw [← Hd.out, Hs.out]; simp [Hp.out]⟩
        case measure => simp [intOf]; omega
    · go_wp2_with fail
      go_ret
      exact ⟨ret_bool (by rw [← Hd.out, drop_end hlt]; rfl), rfl⟩


theorem sl_u8q : SlT Tryd.prog 66 5 1 1 := SlT.mk' (z := .int .u8 0) Tryd.underlying66 (by kernel_rfl) rfl
theorem quoE_big {s : List UInt8} (h : 1000 < s.length) : quoE s = .error 2 := by unfold quoE; rw [if_pos h]
theorem quoE_bad {s : List UInt8} (h : ¬ 1000 < s.length) (hp : s.all isPl = false) : quoE s = .error 3 := by unfold quoE; rw [if_neg h, if_neg (by simp [hp])]
theorem quoE_ok {s : List UInt8} (h : ¬ 1000 < s.length) (hp : s.all isPl = true) : quoE s = .ok (34 :: (quoL s ++ [34])) := by unfold quoE; rw [if_neg h, if_pos hp]
theorem allPl_bad {p : UInt8 → Bool} {l : List UInt8} {k : Nat} {x : UInt8} (h : l[k]? = some x) (hx : p x = false) : l.all p = false := by
  rw [List.all_eq_false]
  exact ⟨x, List.mem_of_getElem? h, by simp [hx]⟩
theorem allPl_step {p : UInt8 → Bool} {l : List UInt8} {k : Nat} {x : UInt8} (h : l[k]? = some x) (hp : (l.take k).all p = true) (hx : p x = true) : (l.take (k + 1)).all p = true := by
  rw [List.take_add_one, h]; simpa [hx] using hp

set_option maxHeartbeats 4000000 in
set_option maxRecDepth 100000 in
theorem w_Quote (l : List UInt8) (hl : l.length ≤ 140737488351232) (w : World) :
    Calls Tryd.prog 100 #[S l] w (StPost w (quoE l)) := by
  obtain ⟨R, hR⟩ : ∃ R, R = quoE l := ⟨_, rfl⟩
  rw [← hR]
  have HR := Lib.hid hR
  clear hR
  by_cases hbig : 1000 < l.length
  · have HR2 := Lib.hid (show R = .error 2 from by rw [HR.out]; exact quoE_big hbig)
    go_enter Tryd.func100, Tryd.ntmps100
    go_wp2_with fail
    go_ret2
    rw [HR2.out]
    exact ⟨rfl, Below.refl _ _⟩
  · have hlit : OwnL encB (w.alloc (.cells #[.int .u8 34] 5)) w.heap.size 5 (some ⟨w.heap.size, 0, none⟩) 1 [34] := own_lit w w.heap.size 5 #[.int .u8 34] [34] rfl (Nat.le_refl _) (by simp [maxLen])
    go_enter Tryd.func100, Tryd.ntmps100
    go_wp2_with fail
    go_loopw [4, 13] (fun o i' wr => ∃ (k : Nat) (A : Option Addr) (c : Nat), i' = .int .i64 k ∧ o = .slice A (34 :: quoL (l.take k)).length c ∧ k ≤ l.length ∧ (l.take k).all isPl = true ∧ OwnL encB wr w.heap.size 5 A c (34 :: quoL (l.take k)) ∧ Below w.heap.size w wr) (fun _ i' _ => l.length - (intOf i').toNat)
    case atStart => exact ⟨0, some ⟨w.heap.size, 0, none⟩, 1, rfl, rfl, by omega, rfl, hlit, (Below.refl _ _).alloc (Nat.le_refl _) _⟩
    case round =>
      obtain ⟨k, A, c, rfl, rfl, hk, hall, hown, hbel⟩ := hrel
      have hbs := hbel.size
      have hql := quoL_len (l.take k)
      have htl : (l.take k).length ≤ k := by rw [List.length_take]; omega
      by_cases hlt : k < l.length
      · obtain ⟨x, hx, _⟩ := drop_step hlt
        have hg : ∀ h, l[k]'h = x := fun h => by rw [List.getElem?_eq_getElem h] at hx; exact Option.some.inj hx
        have Hx := Lib.hid hx
        have Hall := Lib.hid hall
        have hsn := quoL_snoc hx
        clear hall hx
        cases hp : isPl x
        · have HR2 := Lib.hid (show R = .error 3 from by rw [HR.out]; exact quoE_bad hbig (allPl_bad Hx.out hp))
          go_wp2_with (go_at_call 135; refine (q_isPlain x _).mono ?_; rintro e w' ⟨rfl, rfl⟩)
          go_ret2
          rw [HR2.out]
          exact ⟨rfl, hbel⟩
        · have hacc : (34 :: quoL (l.take k)).length ≤ 2001 := by simp only [List.length_cons]; omega
          by_cases hq : x = 34 ∨ x = 92
          · have hqc : quoC x = [92, x] := by unfold quoC; rw [if_pos hq]
            rw [hqc] at hsn
            have hnext : 34 :: quoL (l.take (k + 1)) = (34 :: quoL (l.take k)) ++ [92, x] := by rw [hsn]; rfl
            have Hn := Lib.hid hnext
            clear hnext hsn hql
            generalize 34 :: quoL (l.take k) = acc at *
            rcases hq with rfl | rfl
            · go_wp2_with (first
                | (go_at_call 135; refine (q_isPlain 34 _).mono ?_; rintro e w' ⟨rfl, rfl⟩)
                | (at_builtin; refine wpList_app encB sl_u8q [92, 34] rfl _ _ rfl rfl hown #[.int .u8 92, .int .u8 34] rfl 1 rfl (by first | rfl | (simp [go_sem]; done)) (by omega) (by simp only [maxLen]; omega) hbs ?_; intro g' c'' w4 hown4 hg4 hb4 hbg))
              go_roundw
              case rel => exact ⟨k + 1, some ⟨g', 0, none⟩, c'', by go_num, by rw [Hn.out]; simp, by omega, allPl_step Hx.out Hall.out hp, by rw [Hn.out]; exact hown4, hbel.trans hb4⟩
              case measure => simp [intOf]; omega
            · go_wp2_with (first
                | (go_at_call 135; refine (q_isPlain 92 _).mono ?_; rintro e w' ⟨rfl, rfl⟩)
                | (at_builtin; refine wpList_app encB sl_u8q [92, 92] rfl _ _ rfl rfl hown #[.int .u8 92, .int .u8 92] rfl 1 rfl (by first | rfl | (simp [go_sem]; done)) (by omega) (by simp only [maxLen]; omega) hbs ?_; intro g' c'' w4 hown4 hg4 hb4 hbg))
              go_roundw
              case rel => exact ⟨k + 1, some ⟨g', 0, none⟩, c'', by go_num, by rw [Hn.out]; simp, by omega, allPl_step Hx.out Hall.out hp, by rw [Hn.out]; exact hown4, hbel.trans hb4⟩
              case measure => simp [intOf]; omega
          · have hqc : quoC x = [x] := by unfold quoC; rw [if_neg hq]
            rw [hqc] at hsn
            have hnext : 34 :: quoL (l.take (k + 1)) = (34 :: quoL (l.take k)) ++ [x] := by rw [hsn]; rfl
            have Hn := Lib.hid hnext
            clear hnext hsn hql
            generalize 34 :: quoL (l.take k) = acc at *
            have q1 : ((x.toNat : Int) == 34) = false := by
              rw [beq_eq_false_iff_ne]
              intro h
              exact hq (.inl (UInt8.toNat_inj.1 (by show x.toNat = 34; omega)))
            have q2 : ((x.toNat : Int) == 92) = false := by
              rw [beq_eq_false_iff_ne]
              intro h
              exact hq (.inr (UInt8.toNat_inj.1 (by show x.toNat = 92; omega)))
            clear hq
            go_wp2_with (first
              | (go_at_call 135; refine (q_isPlain x _).mono ?_; rintro e w' ⟨rfl, rfl⟩)
              | (at_builtin; refine wpList_app encB sl_u8q [x] rfl _ _ rfl rfl hown #[.int .u8 x.toNat] rfl 0 rfl (by first | rfl | (simp [go_sem]; done)) (by omega) (by simp only [maxLen]; omega) hbs ?_; intro g' c'' w4 hown4 hg4 hb4 hbg))
            go_roundw
            case rel => exact ⟨k + 1, some ⟨g', 0, none⟩, c'', by go_num, by rw [Hn.out]; simp, by omega, allPl_step Hx.out Hall.out hp, by rw [Hn.out]; exact hown4, hbel.trans hb4⟩
            case measure => simp [intOf]; omega
      · obtain rfl : k = l.length := by omega
        rw [List.take_length] at hown hql hall ⊢
        have HR2 := Lib.hid (show R = .ok (34 :: (quoL l ++ [34])) from by rw [HR.out]; exact quoE_ok hbig hall)
        have hacc : (34 :: quoL l).length ≤ 2001 := by simp only [List.length_cons]; omega
        have hend : 34 :: (quoL l ++ [34]) = (34 :: quoL l) ++ [34] := rfl
        rw [hend] at HR2
        clear hall hql hend
        generalize 34 :: quoL l = acc at *
        go_wp2_with (at_builtin; refine wpList_app encB sl_u8q [34] rfl _ _ rfl rfl hown #[.int .u8 34] rfl 0 rfl (by first | rfl | (simp [go_sem]; done)) (by omega) (by simp only [maxLen]; omega) hbs ?_; intro g' c'' w4 hown4 hg4 hb4 hbg; have hback := run_bytes_str (P := Tryd.prog) 66 9 Tryd.underlying66 Tryd.underlying5 Tryd.underlying9 hown4.read c''; rw [List.length_append, show [(34 : UInt8)].length = 0 + 1 from rfl] at hback)
        go_ret2
        rw [HR2.out]
        exact ⟨rfl, hbel.trans hb4⟩
end Go.Proofs.YtldlbfdfaigkcaaDoor
