/- Walks through package token: each function returns what its Lean function computes. -/
import Derived.Test.YtmhhjmncbclihaaChecked
import Derived.Test.YtmhhjmncbclihaaSpecs
namespace Go.Proofs.Ytmhhjmncbclihaa
open Go.RowKit Go.Larder
set_option linter.unusedVariables false
set_option linter.unusedSimpArgs false

theorem sl_u8 : SlT Try.prog 78 5 1 1 := SlT.mk' (z := .int .u8 0) Try.underlying78 (by kernel_rfl) rfl

theorem w_isBlank (c : UInt8) (w : World) :
    Calls Try.prog 150 #[.int .u8 c.toNat] w fun e w' => e = .returned (.bool (isB c)) ∧ w = w' := by
  unfold isB
  go_enter Try.func150, Try.ntmps150
  cases h : ((c.toNat : Int) == 32)
  all_goals go_wp2
  all_goals go_ret
  all_goals exact ⟨by simp, rfl⟩

theorem w_trim (l : List UInt8) (hl : l.length ≤ 140737488351232) (w : World) :
    Calls Try.prog 128 #[S l] w fun e w' => e = .returned (S (trim l)) ∧ w = w' := by
  go_enter Try.func128, Try.ntmps128
  go_wp2
  go_loop [0] (fun v => ∃ r : List UInt8, v = S r ∧ r.length ≤ l.length ∧ r.dropWhile isB = l.dropWhile isB) (fun v => lenOf v)
  case atStart => exact ⟨_, rfl, Nat.le_refl _, rfl⟩
  case round =>
    obtain ⟨r, rfl, hr, hd⟩ := hrel
    have Hd := Lib.hid hd; clear hd
    have key : ∀ r : List UInt8, r.length ≤ l.length → r = l.dropWhile isB → Hid (r = l.dropWhile isB) := fun _ _ h => h
    rcases r with _ | ⟨a, r⟩
    all_goals (try simp only [List.length_cons] at hr)
    · go_wp2_with fail
      go_loop [0] (fun v => v = S []) (fun v => 0)
      case atStart => rfl
      case round =>
        subst hrel
        go_wp2_with fail
        go_ret
        exact ⟨ret_S (by unfold trim; rw [← Hd.out]; rfl), rfl⟩
    · cases hb : isB a
      · go_wp2_with (go_at_call 150; refine (w_isBlank _ _).mono ?_; rintro e w' ⟨rfl, rfl⟩)
        go_loop [0] (fun v => ∃ r : List UInt8, v = S r ∧ r.length ≤ l.length ∧ trimR r = trim l) (fun v => lenOf v)
        case atStart => exact ⟨a :: r, rfl, by simp; omega, by unfold trim; rw [← Hd.out, List.dropWhile_cons, hb]; rfl⟩
        case round =>
          obtain ⟨r, rfl, hr, hd⟩ := hrel
          have Hd := Lib.hid hd; clear hd
          rcases nil_or_snoc r with rfl | ⟨r, b, rfl⟩
          · go_wp2_with fail
            go_ret
            exact ⟨ret_S (by rw [← Hd.out]; rfl), rfl⟩
          · simp only [List.length_append, List.length_singleton] at hr
            cases hb : isB b
            · go_wp2_with (go_at_call 150; refine (w_isBlank _ _).mono ?_; rintro e w' ⟨rfl, rfl⟩)
              go_ret
              exact ⟨ret_S (by rw [← Hd.out, trimR_snoc, hb]; rfl), rfl⟩
            · go_wp2_with (go_at_call 150; refine (w_isBlank _ _).mono ?_; rintro e w' ⟨rfl, rfl⟩)
              exact ⟨⟨r, rfl, by omega, by rw [← Hd.out, trimR_snoc, hb]; rfl⟩, by simp [lenOf_S]⟩
      · go_wp2_with (go_at_call 150; refine (w_isBlank _ _).mono ?_; rintro e w' ⟨rfl, rfl⟩)
        exact ⟨⟨r, rfl, by omega, by rw [← Hd.out, List.dropWhile_cons, hb]; rfl⟩, by simp [lenOf_S]⟩

theorem w_isPlain (c : UInt8) (w : World) :
    Calls Try.prog 168 #[.int .u8 c.toNat] w fun e w' => e = .returned (.bool (isPl c)) ∧ w = w' := by
  have key : ∀ b, b = isPl c → (Ending.returned (.bool b) = .returned (.bool (isPl c)) ∧ w = w) := fun b h => ⟨ret_bool h, rfl⟩
  by_cases h1 : 32 ≤ (c.toNat : Int) <;> by_cases h2 : (c.toNat : Int) ≤ 126 <;> cases h3 : ((c.toNat : Int) == 9) <;>
    (go_enter Try.func168, Try.ntmps168
     go_wp2
     go_ret
     refine ⟨ret_bool ?_, rfl⟩
     simp at h1 h2 h3
     simp [isPl, h1, h2, h3]
     try omega)

theorem w_Unquote (a : UInt8) (m : List UInt8) (b : UInt8) (hl : m.length ≤ 140737488351232) (w : World) :
    Calls Try.prog 155 #[S (a :: (m ++ [b]))] w fun e w' => e = .returned (.tuple #[S (unqMid a m b).1, .int .i64 (unqMid a m b).2]) ∧ Below w.heap.size w w' := by
  have hg : ∀ h, (a :: (m ++ [b]))[m.length + 1]'h = b := fun h => by simp
  cases ha : isQ a
  · have ha' : ((a.toNat : Int) == 34) = false := ha
    have Hu := Lib.hid (show unqMid a m b = ([], 3) from by simp [unqMid, ha])
    go_enter Try.func155, Try.ntmps155
    go_wp2_with fail
    go_ret2
    rw [Hu.out]
    exact ⟨rfl, Below.refl _ _⟩
  · have ha' : ((a.toNat : Int) == 34) = true := ha
    cases hb : isQ b
    · have hb' : ((b.toNat : Int) == 34) = false := hb
      have Hu := Lib.hid (show unqMid a m b = ([], 3) from by simp [unqMid, hb])
      go_enter Try.func155, Try.ntmps155
      go_wp2_with fail
      go_ret2
      rw [Hu.out]
      exact ⟨rfl, Below.refl _ _⟩
    · have hb' : ((b.toNat : Int) == 34) = true := hb
      have Hu := Lib.hid (show unqMid a m b = unqEnd (unq m []) from by simp [unqMid, ha, hb])
      go_enter Try.func155, Try.ntmps155
      go_wp2_with fail
      clear ha hb ha' hb' hg
      go_loopw [0, 4] (fun s v wr => ∃ (r acc : List UInt8) (A : Option Addr) (c : Nat), s = S r ∧ v = .slice A acc.length c ∧ r.length + acc.length ≤ m.length ∧ OwnL encB wr w.heap.size 5 A c acc ∧ Below w.heap.size w wr ∧ unq r acc = unq m [])
        (fun s _ _ => lenOf s)
      case atStart => exact ⟨m, [], none, 0, rfl, rfl, by simp, OwnL.nil _ _ _, Below.refl _ _, rfl⟩
      case round =>
        obtain ⟨r, acc, A, c, rfl, rfl, hlen, hown, hbel, heq⟩ := hrel
        have Heq := Lib.hid heq; clear heq
        have hcv := fun c' => run_bytes_str (P := Try.prog) 78 9 Try.underlying78 Try.underlying5 Try.underlying9 hown.read c'
        rcases r with _ | ⟨x, r⟩
        · have Hu2 : unqMid a m b = unqEnd (some acc) := by rw [Hu.out, ← Heq.out]; rfl
          have Hu := Lib.hid Hu2; clear Hu2
          by_cases hbig : 1000 < (acc.length : Int)
          · go_wp2_with fail
            go_ret2
            rw [Hu.out]
            exact ⟨by simp [unqEnd, show 1000 < acc.length by omega], hbel⟩
          · go_wp2_with fail
            go_ret2
            rw [Hu.out]
            exact ⟨by simp [unqEnd, show ¬ 1000 < acc.length by omega], hbel⟩
        · clear hcv
          simp only [List.length_cons] at hlen
          rcases r with _ | ⟨d, r⟩
          · cases hbs : isBS x
            · have hbs' : ((x.toNat : Int) == 92) = false := hbs
              cases hq : isQ x
              · have hq' : ((x.toNat : Int) == 34) = false := hq
                cases hp : isPl x
                · have Heq2 := Lib.hid (show unq ([x]) acc = none from by simp [unq, hbs, hq, hp])
                  have Hu2 : unqMid a m b = ([], 3) := by rw [Hu.out, ← Heq.out, Heq2.out]; rfl
                  have Hu := Lib.hid Hu2; clear Hu2
                  go_wp2_with (go_at_call 168; refine (w_isPlain _ _).mono ?_; rintro e w' ⟨rfl, rfl⟩)
                  go_ret2
                  rw [Hu.out]
                  exact ⟨rfl, hbel⟩
                · have Heq2 := Lib.hid (show unq [] (acc ++ [x]) = unq m [] from by rw [← Heq.out]; simp [unq, hbs, hq, hp])
                  go_wp2_with (first
                    | (go_at_call 168; refine (w_isPlain _ _).mono ?_; rintro e w' ⟨rfl, rfl⟩)
                    | (at_builtin
                       refine wpList_app encB sl_u8 [x] rfl _ _ rfl rfl hown #[.int .u8 x.toNat] rfl 0 rfl rfl (by omega) (by simp only [maxLen]; omega) hbel.size ?_
                       intro g c' w1 hown1 hg1 hb1 hbg))
                  go_roundw
                  case rel => exact ⟨[], acc ++ [x], _, c', rfl, by simp, by simp; omega, hown1, hbel.trans hb1, Heq2.out⟩
                  case measure => first | (simp [lenOf_S, lenOf_empty]; done) | (simp [lenOf_S]; omega)
              · have hq' : ((x.toNat : Int) == 34) = true := hq
                have Heq2 := Lib.hid (show unq ([x]) acc = none from by simp [unq, hbs, hq])
                have Hu2 : unqMid a m b = ([], 3) := by rw [Hu.out, ← Heq.out, Heq2.out]; rfl
                have Hu := Lib.hid Hu2; clear Hu2
                go_wp2_with (go_at_call 168; refine (w_isPlain _ _).mono ?_; rintro e w' ⟨rfl, rfl⟩)
                go_ret2
                rw [Hu.out]
                exact ⟨rfl, hbel⟩
            · have hbs' : ((x.toNat : Int) == 92) = true := hbs
              have hq : isQ x = false := by simp [isBS, isQ] at hbs ⊢; omega
              have hq' : ((x.toNat : Int) == 34) = false := hq
              have Heq2 := Lib.hid (show unq ([x]) acc = none from by simp [unq, hbs])
              have Hu2 : unqMid a m b = ([], 3) := by rw [Hu.out, ← Heq.out, Heq2.out]; rfl
              have Hu := Lib.hid Hu2; clear Hu2
              go_wp2_with (go_at_call 168; refine (w_isPlain _ _).mono ?_; rintro e w' ⟨rfl, rfl⟩)
              go_ret2
              rw [Hu.out]
              exact ⟨rfl, hbel⟩
          · simp only [List.length_cons] at hlen
            cases hbs : isBS x
            · have hbs' : ((x.toNat : Int) == 92) = false := hbs
              cases hq : isQ x
              · have hq' : ((x.toNat : Int) == 34) = false := hq
                cases hp : isPl x
                · have Heq2 := Lib.hid (show unq (x :: d :: r) acc = none from by simp [unq, hbs, hq, hp])
                  have Hu2 : unqMid a m b = ([], 3) := by rw [Hu.out, ← Heq.out, Heq2.out]; rfl
                  have Hu := Lib.hid Hu2; clear Hu2
                  go_wp2_with (go_at_call 168; refine (w_isPlain _ _).mono ?_; rintro e w' ⟨rfl, rfl⟩)
                  go_ret2
                  rw [Hu.out]
                  exact ⟨rfl, hbel⟩
                · have Heq2 := Lib.hid (show unq (d :: r) (acc ++ [x]) = unq m [] from by rw [← Heq.out]; simp [unq, hbs, hq, hp])
                  go_wp2_with (first
                    | (go_at_call 168; refine (w_isPlain _ _).mono ?_; rintro e w' ⟨rfl, rfl⟩)
                    | (at_builtin
                       refine wpList_app encB sl_u8 [x] rfl _ _ rfl rfl hown #[.int .u8 x.toNat] rfl 0 rfl rfl (by omega) (by simp only [maxLen]; omega) hbel.size ?_
                       intro g c' w1 hown1 hg1 hb1 hbg))
                  go_roundw
                  case rel => exact ⟨(d :: r), acc ++ [x], _, c', rfl, by simp, by simp; omega, hown1, hbel.trans hb1, Heq2.out⟩
                  case measure => first | (simp [lenOf_S, lenOf_empty]; done) | (simp [lenOf_S]; omega)
              · have hq' : ((x.toNat : Int) == 34) = true := hq
                have Heq2 := Lib.hid (show unq (x :: d :: r) acc = none from by simp [unq, hbs, hq])
                have Hu2 : unqMid a m b = ([], 3) := by rw [Hu.out, ← Heq.out, Heq2.out]; rfl
                have Hu := Lib.hid Hu2; clear Hu2
                go_wp2_with (go_at_call 168; refine (w_isPlain _ _).mono ?_; rintro e w' ⟨rfl, rfl⟩)
                go_ret2
                rw [Hu.out]
                exact ⟨rfl, hbel⟩
            · have hbs' : ((x.toNat : Int) == 92) = true := hbs
              cases hp : isPl d
              · have Heq2 := Lib.hid (show unq (x :: d :: r) acc = none from by simp [unq, hbs, hp])
                have Hu2 : unqMid a m b = ([], 3) := by rw [Hu.out, ← Heq.out, Heq2.out]; rfl
                have Hu := Lib.hid Hu2; clear Hu2
                go_wp2_with (go_at_call 168; refine (w_isPlain _ _).mono ?_; rintro e w' ⟨rfl, rfl⟩)
                go_ret2
                rw [Hu.out]
                exact ⟨rfl, hbel⟩
              · have Heq2 := Lib.hid (show unq r (acc ++ [d]) = unq m [] from by rw [← Heq.out]; simp [unq, hbs, hp])
                go_wp2_with (first
                  | (go_at_call 168; refine (w_isPlain _ _).mono ?_; rintro e w' ⟨rfl, rfl⟩)
                  | (at_builtin
                     refine wpList_app encB sl_u8 [d] rfl _ _ rfl rfl hown #[.int .u8 d.toNat] rfl 0 rfl rfl (by omega) (by simp only [maxLen]; omega) hbel.size ?_
                     intro g c' w1 hown1 hg1 hb1 hbg))
                go_roundw
                case rel => exact ⟨r, acc ++ [d], _, c', rfl, by simp, by simp; omega, hown1, hbel.trans hb1, Heq2.out⟩
                case measure => first | (simp [lenOf_S, lenOf_empty]; done) | (simp [lenOf_S]; omega)

theorem w_Unquote_short (l : List UInt8) (hl : l.length < 2) (w : World) :
    Calls Try.prog 155 #[S l] w fun e w' => e = .returned (.tuple #[S [], .int .i64 3]) ∧ w = w' := by
  go_enter Try.func155, Try.ntmps155
  go_wp2_with fail
  go_ret2
  exact ⟨rfl, rfl⟩
end Go.Proofs.Ytmhhjmncbclihaa
