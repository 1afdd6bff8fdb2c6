/- WQuo, WTok, WRef1, WCut1, WCut, WSplit -/
import Derived.Test.YtemjoiaapfhenaaGreatDoorChecked
import Derived.Test.YtemjoiaapfhenaaGreatDoorGd00
import Derived.Test.YtemjoiaapfhenaaGreatDoorGd02
import Derived.Test.YtemjoiaapfhenaaGreatDoorGd03
import Derived.Deep.QuietTactic
import Derived.BigQuiet

/- WQuo -/
section
namespace Go.Proofs.YtemjoiaapfhenaaGreatDoor
open Go.RowKit Go.Larder
set_option linter.unusedVariables false
set_option linter.unusedSimpArgs false

theorem q_isPlain (c : UInt8) (w : World) :
    Calls Tryz.prog 105 #[.int .u8 c.toNat] w fun e w' => e = .returned (.bool (isPl c)) ∧ w = w' := by
  have key : ∀ b, b = isPl c → (Ending.returned (.bool b) = .returned (.bool (isPl c)) ∧ w = w) := fun b h => ⟨ret_bool h, rfl⟩
  by_cases h1 : 32 ≤ (c.toNat : Int) <;> by_cases h2 : (c.toNat : Int) ≤ 126 <;> cases h3 : ((c.toNat : Int) == 9) <;>
    (go_enter Tryz.func105, Tryz.ntmps105
     go_wp2
     go_ret
     refine ⟨ret_bool ?_, rfl⟩
     simp at h1 h2 h3
     simp [isPl, h1, h2, h3]
     try omega)

theorem q_outside (n lo hi : Int) (w : World) :
    Calls Tryz.prog 76 #[.int .i64 n, .int .i64 lo, .int .i64 hi] w fun e w' => e = .returned (.bool (decide (n < lo) || decide (hi < n))) ∧ w = w' := by
  by_cases h : n < lo
  · have H := Lib.hid (show decide (n < lo) = true from by simpa using h)
    go_enter Tryz.func76, Tryz.ntmps76
    go_wp2
    go_ret
    exact ⟨ret_bool (by rw [H.out]; rfl), rfl⟩
  · have H := Lib.hid (show decide (n < lo) = false from by simpa using h)
    go_enter Tryz.func76, Tryz.ntmps76
    go_wp2
    go_ret
    exact ⟨ret_bool (by rw [H.out]; rfl), rfl⟩

theorem q_plainR (l : List UInt8) (hl : l.length ≤ 140737488351232) (w : World) :
    Calls Tryz.prog 72 #[S l] w fun e w' => e = .returned (.bool (l.all isPl)) ∧ w = w' := by
  go_enter Tryz.func72, Tryz.ntmps72
  go_wp2_with fail
  go_loop [6] (fun v => ∃ k : Nat, v = .int .i64 k ∧ k ≤ l.length ∧ (l.drop k).all isPl = l.all isPl) (fun v => l.length - (intOf v).toNat)
  case atStart => exact ⟨0, rfl, by omega, rfl⟩
  case round =>
    obtain ⟨k, rfl, hk, hd⟩ := hrel
    have Hd := Lib.hid hd; clear hd
    by_cases hlt : k < l.length
    · obtain ⟨x, hx, hs⟩ := drop_step hlt
      have hg : ∀ h, l[k]'h = x := fun h => by rw [List.getElem?_eq_getElem h] at hx; exact Option.some.inj hx
      have Hs := Lib.hid hs; clear hs hx
      cases h9 : ((x.toNat : Int) == 9)
      · by_cases h1 : (x.toNat : Int) < 32
        · have Hp := Lib.hid (show isPl x = false from by simp at h9; simp [isPl, h9]; omega)
          go_wp2_with (go_at_call 76; refine (q_outside _ _ _ _).mono ?_; rintro e w' ⟨rfl, rfl⟩)
          go_ret
          exact ⟨ret_bool (by rw [← Hd.out, Hs.out]; simp [Hp.out]), rfl⟩
        · by_cases h2 : 126 < (x.toNat : Int)
          · have Hp := Lib.hid (show isPl x = false from by simp at h9; simp [isPl, h9]; omega)
            go_wp2_with (go_at_call 76; refine (q_outside _ _ _ _).mono ?_; rintro e w' ⟨rfl, rfl⟩)
            go_ret
            exact ⟨ret_bool (by rw [← Hd.out, Hs.out]; simp [Hp.out]), rfl⟩
          · have Hp := Lib.hid (show isPl x = true from by simp [isPl]; omega)
            go_wp2_with (go_at_call 76; refine (q_outside _ _ _ _).mono ?_; rintro e w' ⟨rfl, rfl⟩)
            go_round
            case rel => exact ⟨k + 1, by go_num, by omega, by rw [← Hd.out, Hs.out]; simp [Hp.out]⟩
            case measure => simp [intOf]; omega
      · have Hp := Lib.hid (show isPl x = true from by simp [isPl, h9])
        go_wp2_with fail
        go_round
        case rel => exact ⟨k + 1, by go_num, by omega, by rw [← Hd.out, Hs.out]; simp [Hp.out]⟩
        case measure => simp [intOf]; omega
    · go_wp2_with fail
      go_ret
      exact ⟨ret_bool (by rw [← Hd.out, drop_end hlt]; rfl), rfl⟩


theorem sl_u8q : SlT Tryz.prog 112 5 1 1 := SlT.mk' (z := .int .u8 0) Tryz.underlying112 (by kernel_rfl) rfl
theorem quoE_big {s : List UInt8} (h : 1000 < s.length) : quoE s = .error 2 := by unfold quoE; rw [if_pos h]
theorem quoE_bad {s : List UInt8} (h : ¬ 1000 < s.length) (hp : s.all isPl = false) : quoE s = .error 3 := by unfold quoE; rw [if_neg h, if_neg (by simp [hp])]
theorem quoE_ok {s : List UInt8} (h : ¬ 1000 < s.length) (hp : s.all isPl = true) : quoE s = .ok (34 :: (quoL s ++ [34])) := by unfold quoE; rw [if_neg h, if_pos hp]
theorem allPl_bad {p : UInt8 → Bool} {l : List UInt8} {k : Nat} {x : UInt8} (h : l[k]? = some x) (hx : p x = false) : l.all p = false := by
  rw [List.all_eq_false]
  exact ⟨x, List.mem_of_getElem? h, by simp [hx]⟩
theorem allPl_step {p : UInt8 → Bool} {l : List UInt8} {k : Nat} {x : UInt8} (h : l[k]? = some x) (hp : (l.take k).all p = true) (hx : p x = true) : (l.take (k + 1)).all p = true := by
  rw [List.take_add_one, h]; simpa [hx] using hp

set_option maxHeartbeats 4000000 in
set_option maxRecDepth 100000 in
theorem w_Quote (l : List UInt8) (hl : l.length ≤ 140737488351232) (w : World) :
    Calls Tryz.prog 40 #[S l] w (StPost w (quoE l)) := by
  obtain ⟨R, hR⟩ : ∃ R, R = quoE l := ⟨_, rfl⟩
  rw [← hR]
  have HR := Lib.hid hR
  clear hR
  by_cases hbig : 1000 < l.length
  · have HR2 := Lib.hid (show R = .error 2 from by rw [HR.out]; exact quoE_big hbig)
    go_enter Tryz.func40, Tryz.ntmps40
    go_wp2_with fail
    go_ret2
    rw [HR2.out]
    exact ⟨rfl, Below.refl _ _⟩
  · have hlit : OwnL encB (w.alloc (.cells #[.int .u8 34] 5)) w.heap.size 5 (some ⟨w.heap.size, 0, none⟩) 1 [34] := own_lit w w.heap.size 5 #[.int .u8 34] [34] rfl (Nat.le_refl _) (by simp [maxLen])
    go_enter Tryz.func40, Tryz.ntmps40
    go_wp2_with fail
    go_loopw [4, 13] (fun o i' wr => ∃ (k : Nat) (A : Option Addr) (c : Nat), i' = .int .i64 k ∧ o = .slice A (34 :: quoL (l.take k)).length c ∧ k ≤ l.length ∧ (l.take k).all isPl = true ∧ OwnL encB wr w.heap.size 5 A c (34 :: quoL (l.take k)) ∧ Below w.heap.size w wr) (fun _ i' _ => l.length - (intOf i').toNat)
    case atStart => exact ⟨0, some ⟨w.heap.size, 0, none⟩, 1, rfl, rfl, by omega, rfl, hlit, (Below.refl _ _).alloc (Nat.le_refl _) _⟩
    case round =>
      obtain ⟨k, A, c, rfl, rfl, hk, hall, hown, hbel⟩ := hrel
      have hbs := hbel.size
      have hql := quoL_len (l.take k)
      have htl : (l.take k).length ≤ k := by rw [List.length_take]; omega
      by_cases hlt : k < l.length
      · obtain ⟨x, hx, _⟩ := drop_step hlt
        have hg : ∀ h, l[k]'h = x := fun h => by rw [List.getElem?_eq_getElem h] at hx; exact Option.some.inj hx
        have Hx := Lib.hid hx
        have Hall := Lib.hid hall
        have hsn := quoL_snoc hx
        clear hall hx
        cases hp : isPl x
        · have HR2 := Lib.hid (show R = .error 3 from by rw [HR.out]; exact quoE_bad hbig (allPl_bad Hx.out hp))
          go_wp2_with (go_at_call 105; refine (q_isPlain x _).mono ?_; rintro e w' ⟨rfl, rfl⟩)
          go_ret2
          rw [HR2.out]
          exact ⟨rfl, hbel⟩
        · have hacc : (34 :: quoL (l.take k)).length ≤ 2001 := by simp only [List.length_cons]; omega
          by_cases hq : x = 34 ∨ x = 92
          · have hqc : quoC x = [92, x] := by unfold quoC; rw [if_pos hq]
            rw [hqc] at hsn
            have hnext : 34 :: quoL (l.take (k + 1)) = (34 :: quoL (l.take k)) ++ [92, x] := by rw [hsn]; rfl
            have Hn := Lib.hid hnext
            clear hnext hsn hql
            generalize 34 :: quoL (l.take k) = acc at *
            rcases hq with rfl | rfl
            · go_wp2_with (first
                | (go_at_call 105; refine (q_isPlain 34 _).mono ?_; rintro e w' ⟨rfl, rfl⟩)
                | (at_builtin; refine wpList_app encB sl_u8q [92, 34] rfl _ _ rfl rfl hown #[.int .u8 92, .int .u8 34] rfl 1 rfl (by first | rfl | (simp [go_sem]; done)) (by omega) (by simp only [maxLen]; omega) hbs ?_; intro g' c'' w4 hown4 hg4 hb4 hbg))
              go_roundw
              case rel => exact ⟨k + 1, some ⟨g', 0, none⟩, c'', by go_num, by rw [Hn.out]; simp, by omega, allPl_step Hx.out Hall.out hp, by rw [Hn.out]; exact hown4, hbel.trans hb4⟩
              case measure => simp [intOf]; omega
            · go_wp2_with (first
                | (go_at_call 105; refine (q_isPlain 92 _).mono ?_; rintro e w' ⟨rfl, rfl⟩)
                | (at_builtin; refine wpList_app encB sl_u8q [92, 92] rfl _ _ rfl rfl hown #[.int .u8 92, .int .u8 92] rfl 1 rfl (by first | rfl | (simp [go_sem]; done)) (by omega) (by simp only [maxLen]; omega) hbs ?_; intro g' c'' w4 hown4 hg4 hb4 hbg))
              go_roundw
              case rel => exact ⟨k + 1, some ⟨g', 0, none⟩, c'', by go_num, by rw [Hn.out]; simp, by omega, allPl_step Hx.out Hall.out hp, by rw [Hn.out]; exact hown4, hbel.trans hb4⟩
              case measure => simp [intOf]; omega
          · have hqc : quoC x = [x] := by unfold quoC; rw [if_neg hq]
            rw [hqc] at hsn
            have hnext : 34 :: quoL (l.take (k + 1)) = (34 :: quoL (l.take k)) ++ [x] := by rw [hsn]; rfl
            have Hn := Lib.hid hnext
            clear hnext hsn hql
            generalize 34 :: quoL (l.take k) = acc at *
            have q1 : ((x.toNat : Int) == 34) = false := by
              rw [beq_eq_false_iff_ne]
              intro h
              exact hq (.inl (UInt8.toNat_inj.1 (by show x.toNat = 34; omega)))
            have q2 : ((x.toNat : Int) == 92) = false := by
              rw [beq_eq_false_iff_ne]
              intro h
              exact hq (.inr (UInt8.toNat_inj.1 (by show x.toNat = 92; omega)))
            clear hq
            go_wp2_with (first
              | (go_at_call 105; refine (q_isPlain x _).mono ?_; rintro e w' ⟨rfl, rfl⟩)
              | (at_builtin; refine wpList_app encB sl_u8q [x] rfl _ _ rfl rfl hown #[.int .u8 x.toNat] rfl 0 rfl (by first | rfl | (simp [go_sem]; done)) (by omega) (by simp only [maxLen]; omega) hbs ?_; intro g' c'' w4 hown4 hg4 hb4 hbg))
            go_roundw
            case rel => exact ⟨k + 1, some ⟨g', 0, none⟩, c'', by go_num, by rw [Hn.out]; simp, by omega, allPl_step Hx.out Hall.out hp, by rw [Hn.out]; exact hown4, hbel.trans hb4⟩
            case measure => simp [intOf]; omega
      · obtain rfl : k = l.length := by omega
        rw [List.take_length] at hown hql hall ⊢
        have HR2 := Lib.hid (show R = .ok (34 :: (quoL l ++ [34])) from by rw [HR.out]; exact quoE_ok hbig hall)
        have hacc : (34 :: quoL l).length ≤ 2001 := by simp only [List.length_cons]; omega
        have hend : 34 :: (quoL l ++ [34]) = (34 :: quoL l) ++ [34] := rfl
        rw [hend] at HR2
        clear hall hql hend
        generalize 34 :: quoL l = acc at *
        go_wp2_with (at_builtin; refine wpList_app encB sl_u8q [34] rfl _ _ rfl rfl hown #[.int .u8 34] rfl 0 rfl (by first | rfl | (simp [go_sem]; done)) (by omega) (by simp only [maxLen]; omega) hbs ?_; intro g' c'' w4 hown4 hg4 hb4 hbg; have hback := run_bytes_str (P := Tryz.prog) 112 9 Tryz.underlying112 Tryz.underlying5 Tryz.underlying9 hown4.read c''; rw [List.length_append, show [(34 : UInt8)].length = 0 + 1 from rfl] at hback)
        go_ret2
        rw [HR2.out]
        exact ⟨rfl, hbel.trans hb4⟩
end Go.Proofs.YtemjoiaapfhenaaGreatDoor
end

/- WTok -/
section
namespace Go.Proofs.YtemjoiaapfhenaaGreatDoor
open Go.RowKit Go.Larder
set_option linter.unusedVariables false
set_option linter.unusedSimpArgs false

theorem sl_u8 : SlT Tryz.prog 112 5 1 1 := SlT.mk' (z := .int .u8 0) Tryz.underlying112 (by kernel_rfl) rfl

theorem w_isBlank (c : UInt8) (w : World) :
    Calls Tryz.prog 197 #[.int .u8 c.toNat] w fun e w' => e = .returned (.bool (isB c)) ∧ w = w' := by
  unfold isB
  go_enter Tryz.func197, Tryz.ntmps197
  cases h : ((c.toNat : Int) == 32)
  all_goals go_wp2
  all_goals go_ret
  all_goals exact ⟨by simp, rfl⟩

theorem w_trim (l : List UInt8) (hl : l.length ≤ 140737488351232) (w : World) :
    Calls Tryz.prog 162 #[S l] w fun e w' => e = .returned (S (trim l)) ∧ w = w' := by
  go_enter Tryz.func162, Tryz.ntmps162
  go_wp2
  go_loop [0] (fun v => ∃ r : List UInt8, v = S r ∧ r.length ≤ l.length ∧ r.dropWhile isB = l.dropWhile isB) (fun v => lenOf v)
  case atStart => exact ⟨_, rfl, Nat.le_refl _, rfl⟩
  case round =>
    obtain ⟨r, rfl, hr, hd⟩ := hrel
    have Hd := Lib.hid hd; clear hd
    have key : ∀ r : List UInt8, r.length ≤ l.length → r = l.dropWhile isB → Hid (r = l.dropWhile isB) := fun _ _ h => h
    rcases r with _ | ⟨a, r⟩
    all_goals (try simp only [List.length_cons] at hr)
    · go_wp2_with fail
      go_loop [0] (fun v => v = S []) (fun v => 0)
      case atStart => rfl
      case round =>
        subst hrel
        go_wp2_with fail
        go_ret
        exact ⟨ret_S (by unfold trim; rw [← Hd.out]; rfl), rfl⟩
    · cases hb : isB a
      · go_wp2_with (go_at_call 197; refine (w_isBlank _ _).mono ?_; rintro e w' ⟨rfl, rfl⟩)
        go_loop [0] (fun v => ∃ r : List UInt8, v = S r ∧ r.length ≤ l.length ∧ trimR r = trim l) (fun v => lenOf v)
        case atStart => exact ⟨a :: r, rfl, by simp; omega, by unfold trim; rw [← Hd.out, List.dropWhile_cons, hb]; rfl⟩
        case round =>
          obtain ⟨r, rfl, hr, hd⟩ := hrel
          have Hd := Lib.hid hd; clear hd
          rcases nil_or_snoc r with rfl | ⟨r, b, rfl⟩
          · go_wp2_with fail
            go_ret
            exact ⟨ret_S (by rw [← Hd.out]; rfl), rfl⟩
          · simp only [List.length_append, List.length_singleton] at hr
            cases hb : isB b
            · go_wp2_with (go_at_call 197; refine (w_isBlank _ _).mono ?_; rintro e w' ⟨rfl, rfl⟩)
              go_ret
              exact ⟨ret_S (by rw [← Hd.out, trimR_snoc, hb]; rfl), rfl⟩
            · go_wp2_with (go_at_call 197; refine (w_isBlank _ _).mono ?_; rintro e w' ⟨rfl, rfl⟩)
              exact ⟨⟨r, rfl, by omega, by rw [← Hd.out, trimR_snoc, hb]; rfl⟩, by simp [lenOf_S]⟩
      · go_wp2_with (go_at_call 197; refine (w_isBlank _ _).mono ?_; rintro e w' ⟨rfl, rfl⟩)
        exact ⟨⟨r, rfl, by omega, by rw [← Hd.out, List.dropWhile_cons, hb]; rfl⟩, by simp [lenOf_S]⟩

theorem w_isPlain (c : UInt8) (w : World) :
    Calls Tryz.prog 105 #[.int .u8 c.toNat] w fun e w' => e = .returned (.bool (isPl c)) ∧ w = w' := by
  have key : ∀ b, b = isPl c → (Ending.returned (.bool b) = .returned (.bool (isPl c)) ∧ w = w) := fun b h => ⟨ret_bool h, rfl⟩
  by_cases h1 : 32 ≤ (c.toNat : Int) <;> by_cases h2 : (c.toNat : Int) ≤ 126 <;> cases h3 : ((c.toNat : Int) == 9) <;>
    (go_enter Tryz.func105, Tryz.ntmps105
     go_wp2
     go_ret
     refine ⟨ret_bool ?_, rfl⟩
     simp at h1 h2 h3
     simp [isPl, h1, h2, h3]
     try omega)

theorem w_Unquote (a : UInt8) (m : List UInt8) (b : UInt8) (hl : m.length ≤ 140737488351232) (w : World) :
    Calls Tryz.prog 43 #[S (a :: (m ++ [b]))] w fun e w' => e = .returned (.tuple #[S (unqMid a m b).1, .int .i64 (unqMid a m b).2]) ∧ Below w.heap.size w w' := by
  have hg : ∀ h, (a :: (m ++ [b]))[m.length + 1]'h = b := fun h => by simp
  cases ha : isQ a
  · have ha' : ((a.toNat : Int) == 34) = false := ha
    have Hu := Lib.hid (show unqMid a m b = ([], 3) from by simp [unqMid, ha])
    go_enter Tryz.func43, Tryz.ntmps43
    go_wp2_with fail
    go_ret2
    rw [Hu.out]
    exact ⟨rfl, Below.refl _ _⟩
  · have ha' : ((a.toNat : Int) == 34) = true := ha
    cases hb : isQ b
    · have hb' : ((b.toNat : Int) == 34) = false := hb
      have Hu := Lib.hid (show unqMid a m b = ([], 3) from by simp [unqMid, hb])
      go_enter Tryz.func43, Tryz.ntmps43
      go_wp2_with fail
      go_ret2
      rw [Hu.out]
      exact ⟨rfl, Below.refl _ _⟩
    · have hb' : ((b.toNat : Int) == 34) = true := hb
      have Hu := Lib.hid (show unqMid a m b = unqEnd (unq m []) from by simp [unqMid, ha, hb])
      go_enter Tryz.func43, Tryz.ntmps43
      go_wp2_with fail
      clear ha hb ha' hb' hg
      go_loopw [0, 4] (fun s v wr => ∃ (r acc : List UInt8) (A : Option Addr) (c : Nat), s = S r ∧ v = .slice A acc.length c ∧ r.length + acc.length ≤ m.length ∧ OwnL encB wr w.heap.size 5 A c acc ∧ Below w.heap.size w wr ∧ unq r acc = unq m [])
        (fun s _ _ => lenOf s)
      case atStart => exact ⟨m, [], none, 0, rfl, rfl, by simp, OwnL.nil _ _ _, Below.refl _ _, rfl⟩
      case round =>
        obtain ⟨r, acc, A, c, rfl, rfl, hlen, hown, hbel, heq⟩ := hrel
        have Heq := Lib.hid heq; clear heq
        have hcv := fun c' => run_bytes_str (P := Tryz.prog) 112 9 Tryz.underlying112 Tryz.underlying5 Tryz.underlying9 hown.read c'
        rcases r with _ | ⟨x, r⟩
        · have Hu2 : unqMid a m b = unqEnd (some acc) := by rw [Hu.out, ← Heq.out]; rfl
          have Hu := Lib.hid Hu2; clear Hu2
          by_cases hbig : 1000 < (acc.length : Int)
          · go_wp2_with fail
            go_ret2
            rw [Hu.out]
            exact ⟨by simp [unqEnd, show 1000 < acc.length by omega], hbel⟩
          · go_wp2_with fail
            go_ret2
            rw [Hu.out]
            exact ⟨by simp [unqEnd, show ¬ 1000 < acc.length by omega], hbel⟩
        · clear hcv
          simp only [List.length_cons] at hlen
          rcases r with _ | ⟨d, r⟩
          · cases hbs : isBS x
            · have hbs' : ((x.toNat : Int) == 92) = false := hbs
              cases hq : isQ x
              · have hq' : ((x.toNat : Int) == 34) = false := hq
                cases hp : isPl x
                · have Heq2 := Lib.hid (show unq ([x]) acc = none from by simp [unq, hbs, hq, hp])
                  have Hu2 : unqMid a m b = ([], 3) := by rw [Hu.out, ← Heq.out, Heq2.out]; rfl
                  have Hu := Lib.hid Hu2; clear Hu2
                  go_wp2_with (go_at_call 105; refine (w_isPlain _ _).mono ?_; rintro e w' ⟨rfl, rfl⟩)
                  go_ret2
                  rw [Hu.out]
                  exact ⟨rfl, hbel⟩
                · have Heq2 := Lib.hid (show unq [] (acc ++ [x]) = unq m [] from by rw [← Heq.out]; simp [unq, hbs, hq, hp])
                  go_wp2_with (first
                    | (go_at_call 105; refine (w_isPlain _ _).mono ?_; rintro e w' ⟨rfl, rfl⟩)
                    | (at_builtin
                       refine wpList_app encB sl_u8 [x] rfl _ _ rfl rfl hown #[.int .u8 x.toNat] rfl 0 rfl rfl (by omega) (by simp only [maxLen]; omega) hbel.size ?_
                       intro g c' w1 hown1 hg1 hb1 hbg))
                  go_roundw
                  case rel => exact ⟨[], acc ++ [x], _, c', rfl, by simp, by simp; omega, hown1, hbel.trans hb1, Heq2.out⟩
                  case measure => first | (simp [lenOf_S, lenOf_empty]; done) | (simp [lenOf_S]; omega)
              · have hq' : ((x.toNat : Int) == 34) = true := hq
                have Heq2 := Lib.hid (show unq ([x]) acc = none from by simp [unq, hbs, hq])
                have Hu2 : unqMid a m b = ([], 3) := by rw [Hu.out, ← Heq.out, Heq2.out]; rfl
                have Hu := Lib.hid Hu2; clear Hu2
                go_wp2_with (go_at_call 105; refine (w_isPlain _ _).mono ?_; rintro e w' ⟨rfl, rfl⟩)
                go_ret2
                rw [Hu.out]
                exact ⟨rfl, hbel⟩
            · have hbs' : ((x.toNat : Int) == 92) = true := hbs
              have hq : isQ x = false := by simp [isBS, isQ] at hbs ⊢; omega
              have hq' : ((x.toNat : Int) == 34) = false := hq
              have Heq2 := Lib.hid (show unq ([x]) acc = none from by simp [unq, hbs])
              have Hu2 : unqMid a m b = ([], 3) := by rw [Hu.out, ← Heq.out, Heq2.out]; rfl
              have Hu := Lib.hid Hu2; clear Hu2
              go_wp2_with (go_at_call 105; refine (w_isPlain _ _).mono ?_; rintro e w' ⟨rfl, rfl⟩)
              go_ret2
              rw [Hu.out]
              exact ⟨rfl, hbel⟩
          · simp only [List.length_cons] at hlen
            cases hbs : isBS x
            · have hbs' : ((x.toNat : Int) == 92) = false := hbs
              cases hq : isQ x
              · have hq' : ((x.toNat : Int) == 34) = false := hq
                cases hp : isPl x
                · have Heq2 := Lib.hid (show unq (x :: d :: r) acc = none from by simp [unq, hbs, hq, hp])
                  have Hu2 : unqMid a m b = ([], 3) := by rw [Hu.out, ← Heq.out, Heq2.out]; rfl
                  have Hu := Lib.hid Hu2; clear Hu2
                  go_wp2_with (go_at_call 105; refine (w_isPlain _ _).mono ?_; rintro e w' ⟨rfl, rfl⟩)
                  go_ret2
                  rw [Hu.out]
                  exact ⟨rfl, hbel⟩
                · have Heq2 := Lib.hid (show unq (d :: r) (acc ++ [x]) = unq m [] from by rw [← Heq.out]; simp [unq, hbs, hq, hp])
                  go_wp2_with (first
                    | (go_at_call 105; refine (w_isPlain _ _).mono ?_; rintro e w' ⟨rfl, rfl⟩)
                    | (at_builtin
                       refine wpList_app encB sl_u8 [x] rfl _ _ rfl rfl hown #[.int .u8 x.toNat] rfl 0 rfl rfl (by omega) (by simp only [maxLen]; omega) hbel.size ?_
                       intro g c' w1 hown1 hg1 hb1 hbg))
                  go_roundw
                  case rel => exact ⟨(d :: r), acc ++ [x], _, c', rfl, by simp, by simp; omega, hown1, hbel.trans hb1, Heq2.out⟩
                  case measure => first | (simp [lenOf_S, lenOf_empty]; done) | (simp [lenOf_S]; omega)
              · have hq' : ((x.toNat : Int) == 34) = true := hq
                have Heq2 := Lib.hid (show unq (x :: d :: r) acc = none from by simp [unq, hbs, hq])
                have Hu2 : unqMid a m b = ([], 3) := by rw [Hu.out, ← Heq.out, Heq2.out]; rfl
                have Hu := Lib.hid Hu2; clear Hu2
                go_wp2_with (go_at_call 105; refine (w_isPlain _ _).mono ?_; rintro e w' ⟨rfl, rfl⟩)
                go_ret2
                rw [Hu.out]
                exact ⟨rfl, hbel⟩
            · have hbs' : ((x.toNat : Int) == 92) = true := hbs
              cases hp : isPl d
              · have Heq2 := Lib.hid (show unq (x :: d :: r) acc = none from by simp [unq, hbs, hp])
                have Hu2 : unqMid a m b = ([], 3) := by rw [Hu.out, ← Heq.out, Heq2.out]; rfl
                have Hu := Lib.hid Hu2; clear Hu2
                go_wp2_with (go_at_call 105; refine (w_isPlain _ _).mono ?_; rintro e w' ⟨rfl, rfl⟩)
                go_ret2
                rw [Hu.out]
                exact ⟨rfl, hbel⟩
              · have Heq2 := Lib.hid (show unq r (acc ++ [d]) = unq m [] from by rw [← Heq.out]; simp [unq, hbs, hp])
                go_wp2_with (first
                  | (go_at_call 105; refine (w_isPlain _ _).mono ?_; rintro e w' ⟨rfl, rfl⟩)
                  | (at_builtin
                     refine wpList_app encB sl_u8 [d] rfl _ _ rfl rfl hown #[.int .u8 d.toNat] rfl 0 rfl rfl (by omega) (by simp only [maxLen]; omega) hbel.size ?_
                     intro g c' w1 hown1 hg1 hb1 hbg))
                go_roundw
                case rel => exact ⟨r, acc ++ [d], _, c', rfl, by simp, by simp; omega, hown1, hbel.trans hb1, Heq2.out⟩
                case measure => first | (simp [lenOf_S, lenOf_empty]; done) | (simp [lenOf_S]; omega)

theorem w_Unquote_short (l : List UInt8) (hl : l.length < 2) (w : World) :
    Calls Tryz.prog 43 #[S l] w fun e w' => e = .returned (.tuple #[S [], .int .i64 3]) ∧ w = w' := by
  go_enter Tryz.func43, Tryz.ntmps43
  go_wp2_with fail
  go_ret2
  exact ⟨rfl, rfl⟩
end Go.Proofs.YtemjoiaapfhenaaGreatDoor
end

/- WRef1 -/
section
namespace Go.Proofs.YtemjoiaapfhenaaGreatDoor
open Go.RowKit Go.Larder
set_option linter.unusedVariables false
set_option linter.unusedSimpArgs false

theorem w_plainR (l : List UInt8) (hl : l.length ≤ 140737488351232) (w : World) :
    Calls Tryz.prog 72 #[S l] w fun e w' => e = .returned (.bool (l.all isPl)) ∧ w = w' := by
  go_enter Tryz.func72, Tryz.ntmps72
  go_wp2_with fail
  go_loop [6] (fun v => ∃ k : Nat, v = .int .i64 k ∧ k ≤ l.length ∧ (l.drop k).all isPl = l.all isPl) (fun v => l.length - (intOf v).toNat)
  case atStart => exact ⟨0, rfl, by omega, rfl⟩
  case round =>
    obtain ⟨k, rfl, hk, hd⟩ := hrel
    have Hd := Lib.hid hd; clear hd
    by_cases hlt : k < l.length
    · obtain ⟨x, hx, hs⟩ := drop_step hlt
      have hg : ∀ h, l[k]'h = x := fun h => by rw [List.getElem?_eq_getElem h] at hx; exact Option.some.inj hx
      have Hs := Lib.hid hs; clear hs hx
      cases h9 : ((x.toNat : Int) == 9)
      · by_cases h1 : (x.toNat : Int) < 32
        · have Hp := Lib.hid (show isPl x = false from by simp at h9; simp [isPl, h9]; omega)
          go_wp2_with (go_at_call 76; refine (w_outside _ _ _ _).mono ?_; rintro e w' ⟨rfl, rfl⟩)
          go_ret
          exact ⟨ret_bool (by rw [← Hd.out, Hs.out]; simp [Hp.out]), rfl⟩
        · by_cases h2 : 126 < (x.toNat : Int)
          · have Hp := Lib.hid (show isPl x = false from by simp at h9; simp [isPl, h9]; omega)
            go_wp2_with (go_at_call 76; refine (w_outside _ _ _ _).mono ?_; rintro e w' ⟨rfl, rfl⟩)
            go_ret
            exact ⟨ret_bool (by rw [← Hd.out, Hs.out]; simp [Hp.out]), rfl⟩
          · have Hp := Lib.hid (show isPl x = true from by simp [isPl]; omega)
            go_wp2_with (go_at_call 76; refine (w_outside _ _ _ _).mono ?_; rintro e w' ⟨rfl, rfl⟩)
            go_round
            case rel => exact ⟨k + 1, by go_num, by omega, by rw [← Hd.out, Hs.out]; simp [Hp.out]⟩
            case measure => simp [intOf]; omega
      · have Hp := Lib.hid (show isPl x = true from by simp [isPl, h9])
        go_wp2_with fail
        go_round
        case rel => exact ⟨k + 1, by go_num, by omega, by rw [← Hd.out, Hs.out]; simp [Hp.out]⟩
        case measure => simp [intOf]; omega
    · go_wp2_with fail
      go_ret
      exact ⟨ret_bool (by rw [← Hd.out, drop_end hlt]; rfl), rfl⟩

theorem w_UnquoteR (a : UInt8) (m : List UInt8) (b : UInt8) (hl : m.length + 2 ≤ 140737488351232) (w : World) :
    Calls Tryz.prog 19 #[S (a :: (m ++ [b]))] w fun e w' => e = .returned (.tuple #[S (unqMidR a m b).1, .int .i64 (unqMidR a m b).2]) ∧ w = w' := by
  have htk : (a :: (m ++ [b])).take 1 = [a] := rfl
  have hdr : (a :: (m ++ [b])).drop (m.length + 1) = [b] := by simp
  cases ha : isQ a
  · have ha' : ([a] == [(34 : UInt8)]) = false := by rw [sing_q]; exact ha
    have Hu := Lib.hid (show unqMidR a m b = ([], 3) from by simp [unqMidR, ha])
    go_enter Tryz.func19, Tryz.ntmps19
    go_wp2_with (go_at_call 72; refine (w_plainR _ (by simp; omega) _).mono ?_; rintro e w' ⟨rfl, rfl⟩)
    go_ret2
    rw [Hu.out]
    exact ⟨rfl, rfl⟩
  · have ha' : ([a] == [(34 : UInt8)]) = true := by rw [sing_q]; exact ha
    cases hb : isQ b
    · have hb' : ([b] == [(34 : UInt8)]) = false := by rw [sing_q]; exact hb
      have Hu := Lib.hid (show unqMidR a m b = ([], 3) from by simp [unqMidR, hb])
      go_enter Tryz.func19, Tryz.ntmps19
      go_wp2_with (go_at_call 72; refine (w_plainR _ (by simp; omega) _).mono ?_; rintro e w' ⟨rfl, rfl⟩)
      go_ret2
      rw [Hu.out]
      exact ⟨rfl, rfl⟩
    · have hb' : ([b] == [(34 : UInt8)]) = true := by rw [sing_q]; exact hb
      cases hp : (a :: (m ++ [b])).all isPl
      · have Hu := Lib.hid (show unqMidR a m b = ([], 3) from by simp [unqMidR, hp])
        go_enter Tryz.func19, Tryz.ntmps19
        go_wp2_with (go_at_call 72; refine (w_plainR _ (by simp; omega) _).mono ?_; rintro e w' ⟨rfl, rfl⟩)
        go_ret2
        rw [Hu.out]
        exact ⟨rfl, rfl⟩
      · have Hu := Lib.hid (show unqMidR a m b = unqEnd (unqR m false []) from by simp only [unqMidR, ha, hb, hp, Bool.and_true, if_true])
        go_enter Tryz.func19, Tryz.ntmps19
        go_wp2_with (go_at_call 72; refine (w_plainR _ (by simp; omega) _).mono ?_; rintro e w' ⟨rfl, rfl⟩)
        clear ha hb ha' hb' hdr htk hp
        generalize hT : m ++ [b] = t
        have hl1 : t.length ≤ m.length + 1 := by rw [← hT]; simp
        have hl2 : m.length + 1 ≤ t.length := by rw [← hT]; simp
        have HT := Lib.hid hT; clear hT
        go_loop [4, 5, 6] (fun o q i => ∃ (k : Nat) (acc : List UInt8) (c : Bool), o = S acc ∧ q = .bool c ∧ i = .int .i64 ((k : Int) + 1) ∧ k ≤ m.length ∧ acc.length ≤ k ∧ unqR (m.drop k) c acc = unqR m false [])
          (fun _ _ i => m.length + 1 - (intOf i).toNat)
        case atStart => exact ⟨0, [], false, rfl, rfl, by go_num, by omega, by simp, rfl⟩
        case round =>
          obtain ⟨k, acc, c, rfl, rfl, rfl, hk, hacc, heq⟩ := hrel
          have Heq := Lib.hid heq; clear heq
          by_cases hlt : k < m.length
          · obtain ⟨x, hx, hs⟩ := drop_step hlt
            have hgm : t[k]? = some x := by rw [← HT.out, List.getElem?_append_left hlt]; exact hx
            have hg : ∀ h, t[k]'h = x := fun h => by rw [List.getElem?_eq_getElem h] at hgm; exact Option.some.inj hgm
            have hs1 : List.take 1 (List.drop k t) = [x] := by
              rw [List.drop_eq_getElem_cons (show k < t.length by omega), hg]; rfl
            have Hs := Lib.hid hs; clear hs hx hgm
            cases c
            · cases hbs : isBS x
              · have hbs' : ((x.toNat : Int) == 92) = false := hbs
                cases hq : isQ x
                · have hq' : ((x.toNat : Int) == 34) = false := hq
                  have Heq2 := Lib.hid (show unqR (m.drop (k + 1)) false (acc ++ [x]) = unqR m false [] from by rw [← Heq.out, Hs.out]; simp [unqR, hbs, hq])
                  go_wp2_with fail
                  go_round
                  case rel => exact ⟨k + 1, acc ++ [x], false, rfl, rfl, by go_num, by omega, by (first | omega | (simp; omega)), Heq2.out⟩
                  case measure => simp [intOf]; omega
                · have hq' : ((x.toNat : Int) == 34) = true := hq
                  have Hu2 : unqMidR a m b = ([], 3) := by rw [Hu.out, ← Heq.out, Hs.out]; simp [unqR, hbs, hq, unqEnd]
                  have Hu := Lib.hid Hu2; clear Hu2
                  go_wp2_with fail
                  go_ret2
                  rw [Hu.out]
                  exact ⟨rfl, rfl⟩
              · have hbs' : ((x.toNat : Int) == 92) = true := hbs
                have Heq2 := Lib.hid (show unqR (m.drop (k + 1)) true acc = unqR m false [] from by rw [← Heq.out, Hs.out]; simp [unqR, hbs])
                go_wp2_with fail
                go_round
                case rel => exact ⟨k + 1, acc, true, rfl, rfl, by go_num, by omega, by (first | omega | (simp; omega)), Heq2.out⟩
                case measure => simp [intOf]; omega
            · have Heq2 := Lib.hid (show unqR (m.drop (k + 1)) false (acc ++ [x]) = unqR m false [] from by rw [← Heq.out, Hs.out]; simp [unqR])
              go_wp2_with fail
              go_round
              case rel => exact ⟨k + 1, acc ++ [x], false, rfl, rfl, by go_num, by omega, by (first | omega | (simp; omega)), Heq2.out⟩
              case measure => simp [intOf]; omega
          · have Hd := Lib.hid (drop_end hlt)
            cases c
            · have Hu2 : unqMidR a m b = unqEnd (some acc) := by rw [Hu.out, ← Heq.out, Hd.out]; rfl
              have Hu := Lib.hid Hu2; clear Hu2
              by_cases hbig : 1000 < (acc.length : Int)
              · go_wp2_with fail
                go_ret2
                rw [Hu.out]
                exact ⟨by simp [unqEnd, show 1000 < acc.length by omega], rfl⟩
              · go_wp2_with fail
                go_ret2
                rw [Hu.out]
                exact ⟨by simp [unqEnd, show ¬ 1000 < acc.length by omega], rfl⟩
            · have Hu2 : unqMidR a m b = ([], 3) := by rw [Hu.out, ← Heq.out, Hd.out]; rfl
              have Hu := Lib.hid Hu2; clear Hu2
              go_wp2_with fail
              go_ret2
              rw [Hu.out]
              exact ⟨rfl, rfl⟩

theorem w_UnquoteR_short (l : List UInt8) (hl : l.length < 2) (w : World) :
    Calls Tryz.prog 19 #[S l] w fun e w' => e = .returned (.tuple #[S [], .int .i64 3]) ∧ w = w' := by
  go_enter Tryz.func19, Tryz.ntmps19
  go_wp2_with fail
  go_ret2
  exact ⟨rfl, rfl⟩
end Go.Proofs.YtemjoiaapfhenaaGreatDoor
end

/- WCut1 -/
section
namespace Go.Proofs.YtemjoiaapfhenaaGreatDoor
open Go.RowKit Go.Larder
set_option linter.unusedVariables false
set_option linter.unusedSimpArgs false

set_option maxHeartbeats 1000000 in
theorem w_liteCut_no (l : List UInt8) (c : UInt8) (h : Lib.indexByte l c = -1) (w : World) :
    Calls Tryz.prog 167 #[S l, S [c]] w fun e w' => e = .returned (.tuple #[S l, S [], .bool false]) ∧ w = w' := by
  have hi := w_liteIndex1 l c w
  rw [h] at hi
  go_enter Tryz.func167, Tryz.ntmps167
  go_wp2_with (go_at_call 135; refine hi.mono ?_; rintro e w' ⟨rfl, rfl⟩)
  go_ret3
  exact ⟨rfl, rfl⟩
set_option maxHeartbeats 1000000 in
theorem w_liteCut_at (l : List UInt8) (c : UInt8) (k : Nat) (h : Lib.indexByte l c = (k : Int)) (hk : k < l.length) (hl : l.length ≤ 140737488351232) (w : World) :
    Calls Tryz.prog 167 #[S l, S [c]] w fun e w' => e = .returned (.tuple #[S (l.take k), S (l.drop (k + 1)), .bool true]) ∧ Below w.heap.size w w' := by
  have hi := w_liteIndex1 l c w
  rw [h] at hi
  have hk2 : k ≤ l.length := by omega
  have hk3 : k + 1 ≤ l.length := by omega
  have e1 : (l.drop (k + 1)).take (l.length - (k + 1)) = l.drop (k + 1) := by rw [List.take_of_length_le]; simp
  go_enter Tryz.func167, Tryz.ntmps167
  go_wp2_with (go_at_call 135; refine hi.mono ?_; rintro e w' ⟨rfl, rfl⟩)
  go_quiet (fail)
  go_wp2_with fail
  go_ret3
  exact ⟨by simp, Go.below_drewN (Below.refl _ _) _⟩
theorem w_Cut_no (l : List UInt8) (c : UInt8) (h : Lib.indexByte l c = -1) (w : World) :
    Calls Tryz.prog 117 #[S l, S [c]] w fun e w' => e = .returned (.tuple #[S l, S [], .bool false]) ∧ w = w' := by
  go_enter Tryz.func117, Tryz.ntmps117
  go_wp2_with (go_at_call 167; refine (w_liteCut_no l c h _).mono ?_; rintro e w' ⟨rfl, rfl⟩)
  go_ret3
  exact ⟨rfl, rfl⟩
theorem w_Cut_at (l : List UInt8) (c : UInt8) (k : Nat) (h : Lib.indexByte l c = (k : Int)) (hk : k < l.length) (hl : l.length ≤ 140737488351232) (w : World) :
    Calls Tryz.prog 117 #[S l, S [c]] w fun e w' => e = .returned (.tuple #[S (l.take k), S (l.drop (k + 1)), .bool true]) ∧ Below w.heap.size w w' := by
  go_enter Tryz.func117, Tryz.ntmps117
  go_wp2_with (go_at_call 167; refine (w_liteCut_at l c k h hk hl _).mono ?_; rintro e w1 ⟨rfl, hb⟩)
  go_ret3
  exact ⟨rfl, hb⟩

theorem w_UnqA (l : List UInt8) (hl : l.length ≤ 140737488351232) (w : World) :
    Calls Tryz.prog 43 #[S l] w fun e w' => e = .returned (.tuple #[S (unqAll l).1, .int .i64 (unqAll l).2]) ∧ Below w.heap.size w w' := by
  by_cases h : l.length < 2
  · rw [unqAll_short h]
    refine (w_Unquote_short l h w).mono ?_
    rintro e w' ⟨rfl, rfl⟩
    exact ⟨rfl, Below.refl _ _⟩
  · obtain ⟨a, m, b, rfl⟩ := mid_of h
    rw [unqAll_mid]
    exact w_Unquote a m b (by simp at hl; omega) w
theorem w_UnqAR (l : List UInt8) (hl : l.length ≤ 140737488351232) (w : World) :
    Calls Tryz.prog 19 #[S l] w fun e w' => e = .returned (.tuple #[S (unqAll l).1, .int .i64 (unqAll l).2]) ∧ w = w' := by
  by_cases h : l.length < 2
  · rw [unqAll_short h]
    exact w_UnquoteR_short l h w
  · obtain ⟨a, m, b, rfl⟩ := mid_of h
    rw [unqAll_mid, unqMid_eq]
    exact w_UnquoteR a m b (by simp at hl; omega) w
end Go.Proofs.YtemjoiaapfhenaaGreatDoor
end

/- WCut -/
section
namespace Go.Proofs.YtemjoiaapfhenaaGreatDoor
open Go.RowKit Go.Larder
set_option linter.unusedVariables false
set_option linter.unusedSimpArgs false

theorem sl_str : SlT Tryz.prog 22 9 1 16 := SlT.mk' (z := .string ByteArray.empty) Tryz.underlying22 (by kernel_rfl) rfl

theorem w_HasPrefix (s p : List UInt8) (hs : s.length ≤ 140737488351232) (hp : p.length ≤ 140737488351232) (w : World) :
    Calls Tryz.prog 83 #[S s, S p] w fun e w' => e = .returned (.bool (Lib.hasPrefix s p)) ∧ w = w' := by
  have H := Lib.hid (Lib.hasPrefix_of_take s p)
  by_cases h : p.length ≤ s.length
  · have Hd := Lib.hid (show decide (p.length ≤ s.length) = true from by simpa using h)
    go_enter Tryz.func83, Tryz.ntmps83
    go_wp2
    go_ret
    exact ⟨ret_bool (by rw [← H.out, Hd.out]; rfl), rfl⟩
  · have Hd := Lib.hid (show decide (p.length ≤ s.length) = false from by simpa using h)
    go_enter Tryz.func83, Tryz.ntmps83
    go_wp2
    go_ret
    exact ⟨ret_bool (by rw [← H.out, Hd.out]; rfl), rfl⟩

theorem w_HasSuffix (s p : List UInt8) (hs : s.length ≤ 140737488351232) (hp : p.length ≤ 140737488351232) (w : World) :
    Calls Tryz.prog 155 #[S s, S p] w fun e w' => e = .returned (.bool (Lib.hasSuffix s p)) ∧ w = w' := by
  have H := Lib.hid (Lib.hasSuffix_of_drop s p)
  by_cases h : p.length ≤ s.length
  · have Hd := Lib.hid (show decide (p.length ≤ s.length) = true from by simpa using h)
    have hsub : ((s.length : Int) - (p.length : Int)).toNat = s.length - p.length := by omega
    have ht : List.take (s.length - (s.length - p.length)) (List.drop (s.length - p.length) s) = List.drop (s.length - p.length) s := List.take_of_length_le (by simp)
    go_enter Tryz.func155, Tryz.ntmps155
    go_wp2
    go_ret
    refine ⟨ret_bool ?_, rfl⟩
    rw [← H.out, Hd.out]
    first | rfl | simp
  · have Hd := Lib.hid (show decide (p.length ≤ s.length) = false from by simpa using h)
    go_enter Tryz.func155, Tryz.ntmps155
    go_wp2
    go_ret
    exact ⟨ret_bool (by rw [← H.out, Hd.out]; rfl), rfl⟩

theorem pre_one (a c : UInt8) (r : List UInt8) : Lib.hasPrefix (a :: r) [c] = (c == a) := by simp [Lib.hasPrefix, List.isPrefixOf]
theorem suf_one (b c : UInt8) (m : List UInt8) : Lib.hasSuffix (m ++ [b]) [c] = (c == b) := by
  simp [Lib.hasSuffix, List.isSuffixOf, List.isPrefixOf]

set_option maxRecDepth 100000 in
theorem trim_none (s : List UInt8) (h0 : Lib.hasPrefix s [32] = false) (h1 : Lib.hasSuffix s [32] = false) (h2 : Lib.hasPrefix s [9] = false) (h3 : Lib.hasSuffix s [9] = false) : trim s = s := by
  have k : ∀ b : UInt8, (32 == b) = false → (9 == b) = false → isB b = false := fun b e1 e2 => by
    simp [isB] at e1 e2 ⊢
    constructor
    · intro h; exact e1 (UInt8.toNat_inj.1 (by simpa using (show (32 : Nat) = b.toNat by omega)))
    · intro h; exact e2 (UInt8.toNat_inj.1 (by simpa using (show (9 : Nat) = b.toNat by omega)))
  apply trim_done
  · intro b hb
    cases s with
    | nil => cases hb
    | cons a r => cases hb; rw [pre_one] at h0 h2; exact k _ h0 h2
  · intro b hb
    rcases nil_or_snoc s with rfl | ⟨m, b', rfl⟩
    · cases hb
    · simp at hb; subst hb; rw [suf_one] at h1 h3; exact k _ h1 h3

theorem w_TrimR (n : Nat) : ∀ (s : List UInt8) (w : World), s.length ≤ n → n ≤ 140737488351232 →
    Calls Tryz.prog 101 #[S s] w fun e w' => e = .returned (S (trim s)) ∧ Below w.heap.size w w' := by
  induction n with
  | zero =>
    intro s w hn hN
    obtain rfl : s = [] := List.eq_nil_of_length_eq_zero (by omega)
    have f0 : Lib.hasPrefix [] [32] = false := rfl
    have f1 : Lib.hasSuffix [] [32] = false := rfl
    have f2 : Lib.hasPrefix [] [9] = false := rfl
    have f3 : Lib.hasSuffix [] [9] = false := rfl
    go_enter Tryz.func101, Tryz.ntmps101
    go_wp2_with fail
    refine wp_loop_rounds 3 ?_
    rw [rounds_succ]
    go_wp2_with (first
      | (go_at_call 83; refine (w_HasPrefix _ _ (by first | omega | (simp; done) | (simp; omega)) (by simp) _).mono ?_; rintro e w' ⟨rfl, rfl⟩)
      | (go_at_call 155; refine (w_HasSuffix _ _ (by first | omega | (simp; done) | (simp; omega)) (by simp) _).mono ?_; rintro e w' ⟨rfl, rfl⟩))
    rw [rounds_succ]
    go_wp2_with (first
      | (go_at_call 83; refine (w_HasPrefix _ _ (by first | omega | (simp; done) | (simp; omega)) (by simp) _).mono ?_; rintro e w' ⟨rfl, rfl⟩)
      | (go_at_call 155; refine (w_HasSuffix _ _ (by first | omega | (simp; done) | (simp; omega)) (by simp) _).mono ?_; rintro e w' ⟨rfl, rfl⟩))
    rw [rounds_succ]
    go_wp2_with (first
      | (go_at_call 83; refine (w_HasPrefix _ _ (by first | omega | (simp; done) | (simp; omega)) (by simp) _).mono ?_; rintro e w' ⟨rfl, rfl⟩)
      | (go_at_call 155; refine (w_HasSuffix _ _ (by first | omega | (simp; done) | (simp; omega)) (by simp) _).mono ?_; rintro e w' ⟨rfl, rfl⟩))
    go_ret
    exact ⟨rfl, by go_grown⟩
  | succ n ih =>
    intro s w hn hN
    have IH := Lib.hid ih
    clear ih
    cases h0 : Lib.hasPrefix s [32]
    · cases h1 : Lib.hasSuffix s [32]
      · cases h2 : Lib.hasPrefix s [9]
        · cases h3 : Lib.hasSuffix s [9]
          · have Hf := Lib.hid (trim_none s h0 h1 h2 h3)
            go_enter Tryz.func101, Tryz.ntmps101
            go_wp2_with fail
            refine wp_loop_rounds 3 ?_
            rw [rounds_succ]
            go_wp2_with (first
              | (go_at_call 83; refine (w_HasPrefix _ _ (by first | omega | (simp; done) | (simp; omega)) (by simp) _).mono ?_; rintro e w' ⟨rfl, rfl⟩)
              | (go_at_call 155; refine (w_HasSuffix _ _ (by first | omega | (simp; done) | (simp; omega)) (by simp) _).mono ?_; rintro e w' ⟨rfl, rfl⟩))
            rw [rounds_succ]
            go_wp2_with (first
              | (go_at_call 83; refine (w_HasPrefix _ _ (by first | omega | (simp; done) | (simp; omega)) (by simp) _).mono ?_; rintro e w' ⟨rfl, rfl⟩)
              | (go_at_call 155; refine (w_HasSuffix _ _ (by first | omega | (simp; done) | (simp; omega)) (by simp) _).mono ?_; rintro e w' ⟨rfl, rfl⟩))
            rw [rounds_succ]
            go_wp2_with (first
              | (go_at_call 83; refine (w_HasPrefix _ _ (by first | omega | (simp; done) | (simp; omega)) (by simp) _).mono ?_; rintro e w' ⟨rfl, rfl⟩)
              | (go_at_call 155; refine (w_HasSuffix _ _ (by first | omega | (simp; done) | (simp; omega)) (by simp) _).mono ?_; rintro e w' ⟨rfl, rfl⟩))
            go_ret
            exact ⟨ret_S Hf.out.symm, by go_grown⟩
          · rcases nil_or_snoc s with rfl | ⟨m, b, rfl⟩
            · cases h3
            · have hm : m.length + 1 ≤ n + 1 := by simpa using hn
              have Hb := Lib.hid (trim_snoc m b (by rw [suf_one] at h3; simp at h3; subst h3; rfl))
              go_enter Tryz.func101, Tryz.ntmps101
              go_wp2_with fail
              refine wp_loop_rounds 2 ?_
              rw [rounds_succ]
              go_wp2_with (first
                | (go_at_call 83; refine (w_HasPrefix _ _ (by first | omega | (simp; done) | (simp; omega)) (by simp) _).mono ?_; rintro e w' ⟨rfl, rfl⟩)
                | (go_at_call 155; refine (w_HasSuffix _ _ (by first | omega | (simp; done) | (simp; omega)) (by simp) _).mono ?_; rintro e w' ⟨rfl, rfl⟩)
                | (go_at_call 101; refine (IH.out m _ (by first | omega | (simp at hn; omega)) (by omega)).mono ?_; rintro e w' ⟨rfl, hb⟩))
              rw [rounds_succ]
              go_wp2_with (first
                | (go_at_call 83; refine (w_HasPrefix _ _ (by first | omega | (simp; done) | (simp; omega)) (by simp) _).mono ?_; rintro e w' ⟨rfl, rfl⟩)
                | (go_at_call 155; refine (w_HasSuffix _ _ (by first | omega | (simp; done) | (simp; omega)) (by simp) _).mono ?_; rintro e w' ⟨rfl, rfl⟩)
                | (go_at_call 101; refine (IH.out m _ (by first | omega | (simp at hn; omega)) (by omega)).mono ?_; rintro e w' ⟨rfl, hb⟩))
              go_ret
              exact ⟨ret_S Hb.out.symm, ((Below.refl _ _).alloc (Nat.le_refl _) _).trans (hb.mono (by simp))⟩
        · rcases s with _ | ⟨a, r⟩
          · cases h2
          · have Hb := Lib.hid (trim_cons a r (by rw [pre_one] at h2; simp at h2; subst h2; rfl))
            go_enter Tryz.func101, Tryz.ntmps101
            go_wp2_with fail
            refine wp_loop_rounds 2 ?_
            rw [rounds_succ]
            go_wp2_with (first
              | (go_at_call 83; refine (w_HasPrefix _ _ (by first | omega | (simp; done) | (simp; omega)) (by simp) _).mono ?_; rintro e w' ⟨rfl, rfl⟩)
              | (go_at_call 155; refine (w_HasSuffix _ _ (by first | omega | (simp; done) | (simp; omega)) (by simp) _).mono ?_; rintro e w' ⟨rfl, rfl⟩)
              | (go_at_call 101; refine (IH.out r _ (by first | omega | (simp at hn; omega)) (by omega)).mono ?_; rintro e w' ⟨rfl, hb⟩))
            rw [rounds_succ]
            go_wp2_with (first
              | (go_at_call 83; refine (w_HasPrefix _ _ (by first | omega | (simp; done) | (simp; omega)) (by simp) _).mono ?_; rintro e w' ⟨rfl, rfl⟩)
              | (go_at_call 155; refine (w_HasSuffix _ _ (by first | omega | (simp; done) | (simp; omega)) (by simp) _).mono ?_; rintro e w' ⟨rfl, rfl⟩)
              | (go_at_call 101; refine (IH.out r _ (by first | omega | (simp at hn; omega)) (by omega)).mono ?_; rintro e w' ⟨rfl, hb⟩))
            go_ret
            exact ⟨ret_S Hb.out.symm, ((Below.refl _ _).alloc (Nat.le_refl _) _).trans (hb.mono (by simp))⟩
      · rcases nil_or_snoc s with rfl | ⟨m, b, rfl⟩
        · cases h1
        · have hm : m.length + 1 ≤ n + 1 := by simpa using hn
          have Hb := Lib.hid (trim_snoc m b (by rw [suf_one] at h1; simp at h1; subst h1; rfl))
          go_enter Tryz.func101, Tryz.ntmps101
          go_wp2_with fail
          refine wp_loop_rounds 1 ?_
          rw [rounds_succ]
          go_wp2_with (first
            | (go_at_call 83; refine (w_HasPrefix _ _ (by first | omega | (simp; done) | (simp; omega)) (by simp) _).mono ?_; rintro e w' ⟨rfl, rfl⟩)
            | (go_at_call 155; refine (w_HasSuffix _ _ (by first | omega | (simp; done) | (simp; omega)) (by simp) _).mono ?_; rintro e w' ⟨rfl, rfl⟩)
            | (go_at_call 101; refine (IH.out m _ (by first | omega | (simp at hn; omega)) (by omega)).mono ?_; rintro e w' ⟨rfl, hb⟩))
          go_ret
          exact ⟨ret_S Hb.out.symm, ((Below.refl _ _).alloc (Nat.le_refl _) _).trans (hb.mono (by simp))⟩
    · rcases s with _ | ⟨a, r⟩
      · cases h0
      · have Hb := Lib.hid (trim_cons a r (by rw [pre_one] at h0; simp at h0; subst h0; rfl))
        go_enter Tryz.func101, Tryz.ntmps101
        go_wp2_with fail
        refine wp_loop_rounds 1 ?_
        rw [rounds_succ]
        go_wp2_with (first
          | (go_at_call 83; refine (w_HasPrefix _ _ (by first | omega | (simp; done) | (simp; omega)) (by simp) _).mono ?_; rintro e w' ⟨rfl, rfl⟩)
          | (go_at_call 155; refine (w_HasSuffix _ _ (by first | omega | (simp; done) | (simp; omega)) (by simp) _).mono ?_; rintro e w' ⟨rfl, rfl⟩)
          | (go_at_call 101; refine (IH.out r _ (by first | omega | (simp at hn; omega)) (by omega)).mono ?_; rintro e w' ⟨rfl, hb⟩))
        go_ret
        exact ⟨ret_S Hb.out.symm, ((Below.refl _ _).alloc (Nat.le_refl _) _).trans (hb.mono (by simp))⟩

theorem w_cut (sg : UInt8) (l : List UInt8) (hl : l.length ≤ 1048576) (w : World) :
    Calls Tryz.prog 106 #[S l, .int .u8 sg.toNat] w (SlPost encS 9 w (cutE sg l)) := by
  obtain ⟨R, hR⟩ : ∃ R, R = cutE sg l := ⟨_, rfl⟩
  rw [← hR]
  have HR := Lib.hid hR
  clear hR
  go_enter Tryz.func106, Tryz.ntmps106
  go_wp2_with fail
  go_loopw [6, 7, 8, 9] (fun o f' q' i' wr => ∃ (k f : Nat) (q : Bool) (acc : List (List UInt8)) (A : Option Addr) (c : Nat), i' = .int .i64 k ∧ f' = .int .i64 f ∧ q' = .bool q ∧ o = .slice A acc.length c ∧
      f ≤ k ∧ f ≤ l.length ∧ k ≤ l.length + 1 ∧ (k ≤ l.length ∨ q = true) ∧ acc.length ≤ k ∧ OwnL encS wr w.heap.size 9 A c acc ∧ Below w.heap.size w wr ∧
      cutP sg (l.drop k) q ((l.drop f).take (k - f)) acc = cutP sg l false [] [])
    (fun _ _ _ i' _ => l.length + 1 - (intOf i').toNat)
  case atStart => exact ⟨0, 0, false, [], none, 0, rfl, rfl, rfl, rfl, by omega, by omega, by omega, .inl (by omega), by simp, OwnL.nil _ _ _, Below.refl _ _, by simp⟩
  case round =>
    obtain ⟨k, f, q, acc, A, c, rfl, rfl, rfl, rfl, hfk, hfl, hkl, hkq, hak, hown, hbel, heq⟩ := hrel
    have Heq := Lib.hid heq; clear heq
    have Hkq := Lib.hid hkq; clear hkq
    by_cases hlt : k < l.length
    · obtain ⟨x, hx, hs⟩ := drop_step hlt
      have hg : ∀ h, l[k]'h = x := fun h => by rw [List.getElem?_eq_getElem h] at hx; exact Option.some.inj hx
      have Hs := Lib.hid hs; clear hs
      have Hseg := Lib.hid (seg_snoc hfk hx); clear hx
      cases hq : isQ x
      · have hq' : ((x.toNat : Int) == 34) = false := hq
        cases q
        · cases hsg : ((x.toNat : Int) == (sg.toNat : Int))
          · have Heq2 := Lib.hid (show cutP sg (l.drop (k + 1)) false ((l.drop (f)).take (k + 1 - (f))) (acc) = cutP sg l false [] [] from by
              rw [← Heq.out, Hs.out, cutP_out _ _ _ _ _ hq hsg, Hseg.out])
            go_wp2_with fail
            go_roundw
            case rel => exact ⟨k + 1, f, false, acc, _, _, by go_num, by first | rfl | go_num, rfl, by simp, by omega, by omega, by omega, .inl (by omega), by first | omega | (simp; omega), hown, hbel, Heq2.out⟩
            case measure => simp [intOf]; omega
          · have Heq2 := Lib.hid (show cutP sg (l.drop (k + 1)) false ((l.drop (k + 1)).take (k + 1 - (k + 1))) (acc ++ [trim (List.take (k - f) (List.drop f l))]) = cutP sg l false [] [] from by
              rw [← Heq.out, Hs.out, cutP_sg _ _ _ _ _ hq hsg]; simp)
            go_wp2_with (first
              | (go_at_call 162; refine (w_trim _ (by simp; omega) _).mono ?_; rintro e w' ⟨rfl, rfl⟩)
              | (at_builtin
                 refine wpList_app encS sl_str [trim (List.take (k - f) (List.drop f l))] rfl _ _ rfl rfl hown #[S (trim (List.take (k - f) (List.drop f l)))] rfl 0 rfl rfl (by omega) (by simp only [maxLen]; omega) hbel.size ?_
                 intro g c' w1 hown1 hg1 hb1 hbg))
            go_roundw
            case rel => exact ⟨k + 1, k + 1, false, acc ++ [trim (List.take (k - f) (List.drop f l))], _, _, by go_num, by first | rfl | go_num, rfl, by simp, by omega, by omega, by omega, .inl (by omega), by first | omega | (simp; omega), hown1, hbel.trans hb1, Heq2.out⟩
            case measure => simp [intOf]; omega
        · cases hb : isBS x
          · have hb' : ((x.toNat : Int) == 92) = false := hb
            have Heq2 := Lib.hid (show cutP sg (l.drop (k + 1)) true ((l.drop (f)).take (k + 1 - (f))) (acc) = cutP sg l false [] [] from by
              rw [← Heq.out, Hs.out, cutP_in _ _ _ _ _ hq hb, Hseg.out])
            go_wp2_with fail
            go_roundw
            case rel => exact ⟨k + 1, f, true, acc, _, _, by go_num, by first | rfl | go_num, rfl, by simp, by omega, by omega, by omega, .inl (by omega), by first | omega | (simp; omega), hown, hbel, Heq2.out⟩
            case measure => simp [intOf]; omega
          · have hb' : ((x.toNat : Int) == 92) = true := hb
            by_cases hlt2 : k + 1 < l.length
            · obtain ⟨d, hd, hs2⟩ := drop_step hlt2
              have Hs2 := Lib.hid hs2; clear hs2
              have Hseg2 := Lib.hid (seg_snoc (f := f) (k := k + 1) (by omega) hd); clear hd
              have Heq2 := Lib.hid (show cutP sg (l.drop (k + 2)) true ((l.drop (f)).take (k + 2 - (f))) (acc) = cutP sg l false [] [] from by
                rw [← Heq.out, Hs.out, Hs2.out, cutP_esc _ _ _ _ _ _ hq hb]; rw [show k + 2 = k + 1 + 1 by omega, Hseg2.out, Hseg.out]; simp)
              go_wp2_with fail
              go_roundw
              case rel => exact ⟨k + 2, f, true, acc, _, _, by go_num, by first | rfl | go_num, rfl, by simp, by omega, by omega, by omega, .inl (by omega), by first | omega | (simp; omega), hown, hbel, Heq2.out⟩
              case measure => simp [intOf]; omega
            · have Heq2 := Lib.hid (show cutP sg (l.drop (k + 2)) true ((l.drop (f)).take (k + 2 - (f))) (acc) = cutP sg l false [] [] from by
                rw [← Heq.out, Hs.out, drop_end hlt2, cutP_esc0 _ _ _ _ hq hb, drop_end (show ¬ k + 2 < l.length by omega)]; rfl)
              go_wp2_with fail
              go_roundw
              case rel => exact ⟨k + 2, f, true, acc, _, _, by go_num, by first | rfl | go_num, rfl, by simp, by omega, by omega, by omega, .inr rfl, by first | omega | (simp; omega), hown, hbel, Heq2.out⟩
              case measure => simp [intOf]; omega
      · have hq' : ((x.toNat : Int) == 34) = true := hq
        cases q
        · have Heq2 := Lib.hid (show cutP sg (l.drop (k + 1)) true ((l.drop (f)).take (k + 1 - (f))) (acc) = cutP sg l false [] [] from by
            rw [← Heq.out, Hs.out, cutP_Q _ _ _ _ _ _ hq, Hseg.out]; rfl)
          go_wp2_with fail
          go_roundw
          case rel => exact ⟨k + 1, f, true, acc, _, _, by go_num, by first | rfl | go_num, rfl, by simp, by omega, by omega, by omega, .inl (by omega), by first | omega | (simp; omega), hown, hbel, Heq2.out⟩
          case measure => simp [intOf]; omega
        · have Heq2 := Lib.hid (show cutP sg (l.drop (k + 1)) false ((l.drop (f)).take (k + 1 - (f))) (acc) = cutP sg l false [] [] from by
            rw [← Heq.out, Hs.out, cutP_Q _ _ _ _ _ _ hq, Hseg.out]; rfl)
          go_wp2_with fail
          go_roundw
          case rel => exact ⟨k + 1, f, false, acc, _, _, by go_num, by first | rfl | go_num, rfl, by simp, by omega, by omega, by omega, .inl (by omega), by first | omega | (simp; omega), hown, hbel, Heq2.out⟩
          case measure => simp [intOf]; omega
    · cases q
      · have hk : k = l.length := by rcases Hkq.out with h | h; omega; cases h
        have Hk := Lib.hid hk; clear hk
        have ht : List.take (l.length - f) (List.drop f l) = List.drop f l := List.take_of_length_le (by simp)
        have HR2 := Lib.hid (show R = .ok (acc ++ [trim (l.drop f)]) from by
          rw [HR.out]; unfold cutE; rw [← Heq.out, drop_end hlt, Hk.out, ht]; rfl)
        go_wp2_with (first
          | (go_at_call 162; refine (w_trim _ (by simp; omega) _).mono ?_; rintro e w' ⟨rfl, rfl⟩)
          | (at_builtin
             refine wpList_app encS sl_str [trim (l.drop f)] rfl _ _ rfl rfl hown #[S (trim (l.drop f))] rfl 0 rfl rfl (by omega) (by simp only [maxLen]; omega) hbel.size ?_
             intro g c' w1 hown1 hg1 hb1 hbg))
        go_ret2
        rw [HR2.out]
        exact ⟨_, c', by simp, hown1, hbel.trans hb1⟩
      · have HR2 := Lib.hid (show R = .error 3 from by rw [HR.out]; unfold cutE; rw [← Heq.out, drop_end hlt]; rfl)
        go_wp2_with fail
        go_ret2
        rw [HR2.out]
        exact ⟨rfl, hbel⟩

/-- What R.parts answers, ahead of the last loop. -/
def PartsPost (t : TypeId) (w : World) (r : List (List UInt8) × Bool) (e : Ending) (w' : World) : Prop :=
  ∃ A c, e = .returned (.tuple #[.slice A (r.1.map trim).length c, .bool r.2]) ∧ OwnL encS w' w.heap.size t A c (r.1.map trim) ∧ Below w.heap.size w w'

theorem w_parts (sg : UInt8) (l : List UInt8) (hl : l.length ≤ 1048576) (w : World) :
    Calls Tryz.prog 74 #[S l, S [sg]] w (PartsPost 9 w (partsR sg l false false [] [])) := by
  obtain ⟨R, hR⟩ : ∃ R, R = partsR sg l false false [] [] := ⟨_, rfl⟩
  rw [← hR]
  have HR := Lib.hid hR
  clear hR
  go_enter Tryz.func74, Tryz.ntmps74
  go_wp2_with fail
  go_loopw [6, 7, 8, 15] (fun o q' n' i' wr => ∃ (k : Nat) (q cn : Bool) (acc : List (List UInt8)) (cur : List UInt8) (g c : Nat), i' = .int .i64 k ∧ q' = .bool q ∧ n' = .bool cn ∧ o = .slice (some ⟨g, 0, none⟩) (acc.length + 1) c ∧
      k ≤ l.length ∧ acc.length ≤ k ∧ cur.length ≤ k ∧ OwnL encS wr w.heap.size 9 (some ⟨g, 0, none⟩) c (acc ++ [cur]) ∧ Below w.heap.size w wr ∧ (∀ s ∈ acc, s.length ≤ l.length) ∧
      partsR sg (l.drop k) q cn acc cur = partsR sg l false false [] [])
    (fun _ _ _ i' _ => l.length - (intOf i').toNat)
  case atStart => exact ⟨0, false, false, [], [], w.heap.size, 1, rfl, rfl, rfl, rfl, by omega, by simp, by simp, own_lit _ _ _ _ _ rfl (by omega) (by simp [maxLen]), (Below.refl _ _).alloc (Nat.le_refl _) _, by simp, rfl⟩
  case round =>
    obtain ⟨k, q, cn, acc, cur, g, c, rfl, rfl, rfl, rfl, hkl, hak, hck, hown, hbel, hall, heq⟩ := hrel
    have Heq := Lib.hid heq; clear heq
    have Hall := Lib.hid hall; clear hall
    by_cases hlt : k < l.length
    · obtain ⟨x, hx, hs⟩ := drop_step hlt
      have ht1 : List.take 1 (List.drop k l) = [x] := by rw [hs]; rfl
      have Hs := Lib.hid hs; clear hs hx
      have hcell := hown.get_S (get_last acc cur)
      have hfz := hown.frozen acc.length
      cases hsg : ((x.toNat : Int) == (sg.toNat : Int))
      · have hsg' : ([x] == [sg]) = false := by rw [sing_q]; exact hsg
        cases cn
        · cases hq : isQ x
          · have hq' : ([x] == [(34 : UInt8)]) = false := by rw [sing_q]; exact hq
            cases hb : isBS x
            · have hb' : ([x] == [(92 : UInt8)]) = false := by rw [sing_q]; exact hb
              have Heq2 := Lib.hid (show partsR sg (l.drop (k + 1)) q false (acc) (cur ++ [x]) = partsR sg l false false [] [] from by
                rw [← Heq.out, Hs.out]; simp [partsR, hsg, hq, hb])
              go_wp2_with fail
              go_roundw
              case rel => exact ⟨k + 1, q, false, acc, cur ++ [x], g, c, by go_num, rfl, rfl, by simp, by omega, by first | omega | (simp; done) | (simp; omega), by first | omega | (simp; done) | (simp; omega), by have := hown.set_S acc.length (cur ++ [x]); rw [set_last] at this; exact this, hbel.setCell (by exact (hown.lt _ rfl).1) _, Hall.out, Heq2.out⟩
              case measure => simp [intOf]; omega
            · have hb' : ([x] == [(92 : UInt8)]) = true := by rw [sing_q]; exact hb
              have Heq2 := Lib.hid (show partsR sg (l.drop (k + 1)) q q (acc) (cur ++ [x]) = partsR sg l false false [] [] from by
                rw [← Heq.out, Hs.out]; simp [partsR, hsg, hq, hb])
              go_wp2_with fail
              go_roundw
              case rel => exact ⟨k + 1, q, q, acc, cur ++ [x], g, c, by go_num, rfl, rfl, by simp, by omega, by first | omega | (simp; done) | (simp; omega), by first | omega | (simp; done) | (simp; omega), by have := hown.set_S acc.length (cur ++ [x]); rw [set_last] at this; exact this, hbel.setCell (by exact (hown.lt _ rfl).1) _, Hall.out, Heq2.out⟩
              case measure => simp [intOf]; omega
          · have hq' : ([x] == [(34 : UInt8)]) = true := by rw [sing_q]; exact hq
            have Heq2 := Lib.hid (show partsR sg (l.drop (k + 1)) (!q) false (acc) (cur ++ [x]) = partsR sg l false false [] [] from by
              rw [← Heq.out, Hs.out]; simp [partsR, hsg, hq])
            go_wp2_with fail
            go_roundw
            case rel => exact ⟨k + 1, (!q), false, acc, cur ++ [x], g, c, by go_num, rfl, rfl, by simp, by omega, by first | omega | (simp; done) | (simp; omega), by first | omega | (simp; done) | (simp; omega), by have := hown.set_S acc.length (cur ++ [x]); rw [set_last] at this; exact this, hbel.setCell (by exact (hown.lt _ rfl).1) _, Hall.out, Heq2.out⟩
            case measure => simp [intOf]; omega
        · have Heq2 := Lib.hid (show partsR sg (l.drop (k + 1)) q false (acc) (cur ++ [x]) = partsR sg l false false [] [] from by
            rw [← Heq.out, Hs.out]; simp [partsR, hsg])
          go_wp2_with fail
          go_roundw
          case rel => exact ⟨k + 1, q, false, acc, cur ++ [x], g, c, by go_num, rfl, rfl, by simp, by omega, by first | omega | (simp; done) | (simp; omega), by first | omega | (simp; done) | (simp; omega), by have := hown.set_S acc.length (cur ++ [x]); rw [set_last] at this; exact this, hbel.setCell (by exact (hown.lt _ rfl).1) _, Hall.out, Heq2.out⟩
          case measure => simp [intOf]; omega
      · have hsg' : ([x] == [sg]) = true := by rw [sing_q]; exact hsg
        cases q
        · have Heq2 := Lib.hid (show partsR sg (l.drop (k + 1)) false cn (acc ++ [cur]) ([]) = partsR sg l false false [] [] from by
            rw [← Heq.out, Hs.out]; simp [partsR, hsg])
          go_wp2_with (at_builtin
                       refine wpList_app encS sl_str [([] : List UInt8)] rfl _ _ rfl (by show Value.slice (some ⟨g, 0, none⟩) (acc.length + 1) c = _; simp) hown #[S []] rfl 0 rfl rfl (by simp; omega) (by simp only [maxLen]; simp; omega) hbel.size ?_
                       intro g' c' w1 hown1 hg1 hb1 hbg)
          go_roundw
          case rel => exact ⟨k + 1, false, cn, acc ++ [cur], [], g', c', by go_num, rfl, rfl, by simp, by omega, by first | omega | (simp; done) | (simp; omega), by first | omega | (simp; done) | (simp; omega), hown1, hbel.trans hb1, by
            intro s hs
            rcases List.mem_append.1 hs with h | h
            · exact Hall.out s h
            · simp at h; subst h; omega, Heq2.out⟩
          case measure => simp [intOf]; omega
        · cases cn
          · cases hq : isQ x
            · have hq' : ([x] == [(34 : UInt8)]) = false := by rw [sing_q]; exact hq
              cases hb : isBS x
              · have hb' : ([x] == [(92 : UInt8)]) = false := by rw [sing_q]; exact hb
                have Heq2 := Lib.hid (show partsR sg (l.drop (k + 1)) true false (acc) (cur ++ [x]) = partsR sg l false false [] [] from by
                  rw [← Heq.out, Hs.out]; simp [partsR, hsg, hq, hb])
                go_wp2_with fail
                go_roundw
                case rel => exact ⟨k + 1, true, false, acc, cur ++ [x], g, c, by go_num, rfl, rfl, by simp, by omega, by first | omega | (simp; done) | (simp; omega), by first | omega | (simp; done) | (simp; omega), by have := hown.set_S acc.length (cur ++ [x]); rw [set_last] at this; exact this, hbel.setCell (by exact (hown.lt _ rfl).1) _, Hall.out, Heq2.out⟩
                case measure => simp [intOf]; omega
              · have hb' : ([x] == [(92 : UInt8)]) = true := by rw [sing_q]; exact hb
                have Heq2 := Lib.hid (show partsR sg (l.drop (k + 1)) true true (acc) (cur ++ [x]) = partsR sg l false false [] [] from by
                  rw [← Heq.out, Hs.out]; simp [partsR, hsg, hq, hb])
                go_wp2_with fail
                go_roundw
                case rel => exact ⟨k + 1, true, true, acc, cur ++ [x], g, c, by go_num, rfl, rfl, by simp, by omega, by first | omega | (simp; done) | (simp; omega), by first | omega | (simp; done) | (simp; omega), by have := hown.set_S acc.length (cur ++ [x]); rw [set_last] at this; exact this, hbel.setCell (by exact (hown.lt _ rfl).1) _, Hall.out, Heq2.out⟩
                case measure => simp [intOf]; omega
            · have hq' : ([x] == [(34 : UInt8)]) = true := by rw [sing_q]; exact hq
              have Heq2 := Lib.hid (show partsR sg (l.drop (k + 1)) false false (acc) (cur ++ [x]) = partsR sg l false false [] [] from by
                rw [← Heq.out, Hs.out]; simp [partsR, hsg, hq])
              go_wp2_with fail
              go_roundw
              case rel => exact ⟨k + 1, false, false, acc, cur ++ [x], g, c, by go_num, rfl, rfl, by simp, by omega, by first | omega | (simp; done) | (simp; omega), by first | omega | (simp; done) | (simp; omega), by have := hown.set_S acc.length (cur ++ [x]); rw [set_last] at this; exact this, hbel.setCell (by exact (hown.lt _ rfl).1) _, Hall.out, Heq2.out⟩
              case measure => simp [intOf]; omega
          · have Heq2 := Lib.hid (show partsR sg (l.drop (k + 1)) true false (acc) (cur ++ [x]) = partsR sg l false false [] [] from by
              rw [← Heq.out, Hs.out]; simp [partsR, hsg])
            go_wp2_with fail
            go_roundw
            case rel => exact ⟨k + 1, true, false, acc, cur ++ [x], g, c, by go_num, rfl, rfl, by simp, by omega, by first | omega | (simp; done) | (simp; omega), by first | omega | (simp; done) | (simp; omega), by have := hown.set_S acc.length (cur ++ [x]); rw [set_last] at this; exact this, hbel.setCell (by exact (hown.lt _ rfl).1) _, Hall.out, Heq2.out⟩
            case measure => simp [intOf]; omega
    · have HR2 := Lib.hid (show R = (acc ++ [cur], !q) from by rw [HR.out, ← Heq.out, drop_end hlt]; rfl)
      have hall : ∀ s ∈ acc ++ [cur], s.length ≤ l.length := by
        intro s hs
        rcases List.mem_append.1 hs with h | h
        · exact Hall.out s h
        · simp at h; subst h; omega
      have Hall2 := Lib.hid hall; clear hall
      have hLl : (acc ++ [cur]).length = acc.length + 1 := by simp
      generalize acc ++ [cur] = L at hown HR2 Hall2 hLl
      have hL1 : L.length ≤ acc.length + 1 := by omega
      have hL2 : acc.length + 1 ≤ L.length := by omega
      have HL := Lib.hid hLl; clear hLl
      have own0 : OwnL encS wr w.heap.size 9 (some ⟨g, 0, none⟩) c ((L.take 0).map trim ++ L.drop 0) := hown
      clear hown
      go_wp2_with fail
      go_loopw [56] (fun i' wr => ∃ j : Nat, i' = .int .i64 j ∧ j ≤ L.length ∧ OwnL encS wr w.heap.size 9 (some ⟨g, 0, none⟩) c ((L.take j).map trim ++ L.drop j) ∧ Below w.heap.size w wr) (fun i' _ => L.length - (intOf i').toNat)
      case atStart => exact ⟨0, rfl, by omega, own0, hbel⟩
      case round =>
        clear own0 hbel
        obtain ⟨j, rfl, hj, hown, hbel⟩ := hrel
        by_cases hlt2 : j < L.length
        · obtain ⟨x, hx, _⟩ := drop_step hlt2
          have hms := map_step trim L j x hx
          have hxl : x.length ≤ 1048576 := by
            have := Hall2.out x (List.mem_of_getElem? hx); omega
          obtain ⟨hm1, hm2⟩ := hms
          have Hm1 := Lib.hid hm1
          have Hm2 := Lib.hid hm2
          clear hx hm1 hm2
          have hcell := hown.get_S Hm1.out
          have hfz := hown.frozen j
          go_wp2_with (go_at_call 101; refine (w_TrimR 1048576 x _ hxl (by omega)).mono ?_; rintro e w1 ⟨rfl, hb⟩; have hown := hown.below hb (Nat.le_refl _); have hbel := hbel.trans (hb.mono hbel.size); have hcell := hown.get_S Hm1.out; have hfz := hown.frozen j)
          go_roundw
          case rel => exact ⟨j + 1, by go_num, by omega, by have := hown.set_S j (trim x); rw [Hm2.out] at this; exact this, hbel.setCell (by exact (hown.lt _ rfl).1) _⟩
          case measure => simp [intOf]; omega
        · have Hd : Hid (j = L.length) := Lib.hid (by omega)
          go_wp2_with fail
          go_ret2
          rw [HR2.out]
          refine ⟨some ⟨g, 0, none⟩, c, ?_, ?_, hbel⟩
          · simp [HL.out]
          · have := hown
            rw [Hd.out, List.take_length, List.drop_length, List.append_nil] at this
            exact this
end Go.Proofs.YtemjoiaapfhenaaGreatDoor
end

/- WSplit -/
section
namespace Go.Proofs.YtemjoiaapfhenaaGreatDoor
open Go.RowKit Go.Larder
set_option linter.unusedVariables false
set_option linter.unusedSimpArgs false

theorem wt_Split (l : List UInt8) (hl : l.length ≤ 140737488351232) (w : World) :
    Calls Tryz.prog 45 #[S l] w (SlPost encS 9 w (splitE l)) := by
  obtain ⟨R, hR⟩ : ∃ R, R = splitE l := ⟨_, rfl⟩
  rw [← hR]
  have HR := Lib.hid hR
  clear hR
  by_cases hbig : 1000 < l.length
  · have HR2 := Lib.hid (show R = .error 2 from by rw [HR.out]; unfold splitE; rw [if_pos hbig])
    go_enter Tryz.func45, Tryz.ntmps45
    go_wp2_with fail
    go_ret2
    rw [HR2.out]
    exact ⟨rfl, Below.refl _ _⟩
  · go_enter Tryz.func45, Tryz.ntmps45
    go_wp2_with fail
    refine (w_cut 44 l (by omega) _).mono ?_
    rintro e w1 hpost
    cases hE : cutE 44 l with
    | error n =>
      obtain ⟨rfl, hb⟩ := hpost.err hE
      obtain rfl := cutE_err 44 l n hE
      have HR2 := Lib.hid (show R = .error 3 from by rw [HR.out]; unfold splitE; rw [if_neg (by omega), hE])
      clear hE hpost
      go_wp2_with fail
      go_ret2
      rw [HR2.out]
      exact ⟨rfl, hb⟩
    | ok L =>
      obtain ⟨AL, cL, rfl, hownL, hbw⟩ := hpost.ok_ hE
      clear hpost
      have hLn := cutE_len 44 l L hE
      have HR1 := Lib.hid (show R = if 20 < (L.filter ne).length then .error 2 else .ok (L.filter ne) from by
        rw [HR.out]; unfold splitE; rw [if_neg (by omega), hE])
      clear hE
      have Hread := Lib.hid (hownL.read)
      clear hownL
      go_wp2_with fail
      go_loopw [6, 22] (fun o i' wr => ∃ (k : Nat) (acc : List (List UInt8)) (A : Option Addr) (c : Nat), i' = .int .i64 k ∧ o = .slice A acc.length c ∧ k ≤ L.length ∧ acc.length ≤ k ∧
          OwnL encS wr w1.heap.size 9 A c acc ∧ Below w1.heap.size w1 wr ∧ acc ++ (L.drop k).filter ne = L.filter ne) (fun _ i' _ => L.length - (intOf i').toNat)
      case atStart => exact ⟨0, [], none, 0, rfl, rfl, by omega, by simp, OwnL.nil _ _ _, Below.refl _ _, rfl⟩
      case round =>
        obtain ⟨k, acc, A, c, rfl, rfl, hk, hak, hown, hbel, heq⟩ := hrel
        have Heq := Lib.hid heq; clear heq
        by_cases hlt : k < L.length
        · obtain ⟨x, hx, hs⟩ := drop_step hlt
          have hst := filter_step ne L k x acc hs Heq.out
          obtain ⟨b, off, rfl, hbb, hcell⟩ := (Hread.out.below hbel (Nat.le_refl _)).at_S hx
          clear hx hs
          cases hne : (x == [])
          · have Hst := Lib.hid (hst.1 (by unfold ne; rw [hne]; rfl))
            clear hst
            go_wp2_with (at_builtin
                         refine wpList_app encS sl_str [x] rfl _ _ rfl rfl hown #[S x] rfl 0 rfl rfl (by omega) (by simp only [maxLen]; omega) hbel.size ?_
                         intro g' c' w2 hown1 hg1 hb1 hbg)
            go_roundw
            case rel => exact ⟨k + 1, acc ++ [x], _, c', by go_num, by simp, by omega, by simp; omega, hown1, hbel.trans hb1, Hst.out⟩
            case measure => simp [intOf]; omega
          · have Hst := Lib.hid (hst.2 (by unfold ne; rw [hne]; rfl))
            clear hst
            go_wp2_with fail
            go_roundw
            case rel => exact ⟨k + 1, acc, A, c, by go_num, rfl, by omega, by omega, hown, hbel, Hst.out⟩
            case measure => simp [intOf]; omega
        · have Hacc := Lib.hid (show acc = L.filter ne from by rw [← Heq.out, drop_end hlt]; simp)
          by_cases h20 : 20 < acc.length
          · have HR2 := Lib.hid (show R = .error 2 from by rw [HR1.out, ← Hacc.out, if_pos h20])
            go_wp2_with fail
            go_ret2
            rw [HR2.out]
            exact ⟨rfl, hbw.trans (hbel.mono hbw.size)⟩
          · have HR2 := Lib.hid (show R = .ok acc from by rw [HR1.out, ← Hacc.out, if_neg h20])
            go_wp2_with fail
            go_ret2
            rw [HR2.out]
            exact ⟨A, c, rfl, hown.base_le hbw.size, hbw.trans (hbel.mono hbw.size)⟩

theorem wt_SplitR (l : List UInt8) (hl : l.length ≤ 140737488351232) (w : World) :
    Calls Tryz.prog 20 #[S l] w (SlPost encS 9 w (splitE l)) := by
  obtain ⟨R, hR⟩ : ∃ R, R = splitE l := ⟨_, rfl⟩
  rw [← hR]
  have HR := Lib.hid hR
  clear hR
  by_cases hbig : 1000 < l.length
  · have HR2 := Lib.hid (show R = .error 2 from by rw [HR.out]; unfold splitE; rw [if_pos hbig])
    go_enter Tryz.func20, Tryz.ntmps20
    go_wp2_with fail
    go_ret2
    rw [HR2.out]
    exact ⟨rfl, Below.refl _ _⟩
  · go_enter Tryz.func20, Tryz.ntmps20
    go_wp2_with fail
    refine (w_parts 44 l (by omega) _).mono ?_
    rintro e w1 hpost
    obtain ⟨AL, cL, rfl, hownL, hbw⟩ := hpost
    have hE := cutE_parts 44 rfl rfl l
    generalize partsR 44 l false false [] [] = r at hE hownL ⊢
    obtain ⟨L0, ok⟩ := r
    cases ok with
    | false =>
      have hE : cutE 44 l = .error 3 := hE
      have HR2 := Lib.hid (show R = .error 3 from by rw [HR.out]; unfold splitE; rw [if_neg (by omega), hE])
      clear hE
      go_wp2_with fail
      go_ret2
      rw [HR2.out]
      exact ⟨rfl, hbw⟩
    | true =>
      have hE : cutE 44 l = .ok (L0.map trim) := hE
      simp only at hownL ⊢
      generalize L0.map trim = L at hE hownL ⊢
      have hLn := cutE_len 44 l L hE
      have HR1 := Lib.hid (show R = if 20 < (L.filter ne).length then .error 2 else .ok (L.filter ne) from by
        rw [HR.out]; unfold splitE; rw [if_neg (by omega), hE])
      clear hE
      have Hread := Lib.hid (hownL.read)
      clear hownL
      go_wp2_with fail
      go_loopw [6, 21] (fun o i' wr => ∃ (k : Nat) (acc : List (List UInt8)) (A : Option Addr) (c : Nat), i' = .int .i64 k ∧ o = .slice A acc.length c ∧ k ≤ L.length ∧ acc.length ≤ k ∧
          OwnL encS wr w1.heap.size 9 A c acc ∧ Below w1.heap.size w1 wr ∧ acc ++ (L.drop k).filter ne = L.filter ne) (fun _ i' _ => L.length - (intOf i').toNat)
      case atStart => exact ⟨0, [], none, 0, rfl, rfl, by omega, by simp, OwnL.nil _ _ _, Below.refl _ _, rfl⟩
      case round =>
        obtain ⟨k, acc, A, c, rfl, rfl, hk, hak, hown, hbel, heq⟩ := hrel
        have Heq := Lib.hid heq; clear heq
        by_cases hlt : k < L.length
        · obtain ⟨x, hx, hs⟩ := drop_step hlt
          have hst := filter_step ne L k x acc hs Heq.out
          obtain ⟨b, off, rfl, hbb, hcell⟩ := (Hread.out.below hbel (Nat.le_refl _)).at_S hx
          clear hx hs
          cases hne : (x == [])
          · have Hst := Lib.hid (hst.1 (by unfold ne; rw [hne]; rfl))
            clear hst
            go_wp2_with (at_builtin
                         refine wpList_app encS sl_str [x] rfl _ _ rfl rfl hown #[S x] rfl 0 rfl rfl (by omega) (by simp only [maxLen]; omega) hbel.size ?_
                         intro g' c' w2 hown1 hg1 hb1 hbg)
            go_roundw
            case rel => exact ⟨k + 1, acc ++ [x], _, c', by go_num, by simp, by omega, by simp; omega, hown1, hbel.trans hb1, Hst.out⟩
            case measure => simp [intOf]; omega
          · have Hst := Lib.hid (hst.2 (by unfold ne; rw [hne]; rfl))
            clear hst
            go_wp2_with fail
            go_roundw
            case rel => exact ⟨k + 1, acc, A, c, by go_num, rfl, by omega, by omega, hown, hbel, Hst.out⟩
            case measure => simp [intOf]; omega
        · have Hacc := Lib.hid (show acc = L.filter ne from by rw [← Heq.out, drop_end hlt]; simp)
          by_cases h20 : 20 < acc.length
          · have HR2 := Lib.hid (show R = .error 2 from by rw [HR1.out, ← Hacc.out, if_pos h20])
            go_wp2_with fail
            go_ret2
            rw [HR2.out]
            exact ⟨rfl, hbw.trans (hbel.mono hbw.size)⟩
          · have HR2 := Lib.hid (show R = .ok acc from by rw [HR1.out, ← Hacc.out, if_neg h20])
            go_wp2_with fail
            go_ret2
            rw [HR2.out]
            exact ⟨A, c, rfl, hown.base_le hbw.size, hbw.trans (hbel.mono hbw.size)⟩
end Go.Proofs.YtemjoiaapfhenaaGreatDoor
end
