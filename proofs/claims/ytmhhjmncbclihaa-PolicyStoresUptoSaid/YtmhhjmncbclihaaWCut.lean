/- Walks through token.cut and the reference's parts, Trim, and strings.HasPrefix, HasSuffix. -/
import Derived.Test.YtmhhjmncbclihaaWTok
import Derived.Test.YtmhhjmncbclihaaSpecs
namespace Go.Proofs.Ytmhhjmncbclihaa
open Go.RowKit Go.Larder
set_option linter.unusedVariables false
set_option linter.unusedSimpArgs false

theorem sl_str : SlT Try.prog 22 9 1 16 := SlT.mk' (z := .string ByteArray.empty) Try.underlying22 (by kernel_rfl) rfl

theorem w_HasPrefix (s p : List UInt8) (hs : s.length ≤ 140737488351232) (hp : p.length ≤ 140737488351232) (w : World) :
    Calls Try.prog 151 #[S s, S p] w fun e w' => e = .returned (.bool (Lib.hasPrefix s p)) ∧ w = w' := by
  have H := Lib.hid (Lib.hasPrefix_of_take s p)
  by_cases h : p.length ≤ s.length
  · have Hd := Lib.hid (show decide (p.length ≤ s.length) = true from by simpa using h)
    go_enter Try.func151, Try.ntmps151
    go_wp2
    go_ret
    exact ⟨ret_bool (by rw [← H.out, Hd.out]; rfl), rfl⟩
  · have Hd := Lib.hid (show decide (p.length ≤ s.length) = false from by simpa using h)
    go_enter Try.func151, Try.ntmps151
    go_wp2
    go_ret
    exact ⟨ret_bool (by rw [← H.out, Hd.out]; rfl), rfl⟩

theorem w_HasSuffix (s p : List UInt8) (hs : s.length ≤ 140737488351232) (hp : p.length ≤ 140737488351232) (w : World) :
    Calls Try.prog 152 #[S s, S p] w fun e w' => e = .returned (.bool (Lib.hasSuffix s p)) ∧ w = w' := by
  have H := Lib.hid (Lib.hasSuffix_of_drop s p)
  by_cases h : p.length ≤ s.length
  · have Hd := Lib.hid (show decide (p.length ≤ s.length) = true from by simpa using h)
    have hsub : ((s.length : Int) - (p.length : Int)).toNat = s.length - p.length := by omega
    have ht : List.take (s.length - (s.length - p.length)) (List.drop (s.length - p.length) s) = List.drop (s.length - p.length) s := List.take_of_length_le (by simp)
    go_enter Try.func152, Try.ntmps152
    go_wp2
    go_ret
    refine ⟨ret_bool ?_, rfl⟩
    rw [← H.out, Hd.out]
    first | rfl | simp
  · have Hd := Lib.hid (show decide (p.length ≤ s.length) = false from by simpa using h)
    go_enter Try.func152, Try.ntmps152
    go_wp2
    go_ret
    exact ⟨ret_bool (by rw [← H.out, Hd.out]; rfl), rfl⟩

theorem pre_one (a c : UInt8) (r : List UInt8) : Lib.hasPrefix (a :: r) [c] = (c == a) := by simp [Lib.hasPrefix, List.isPrefixOf]
theorem suf_one (b c : UInt8) (m : List UInt8) : Lib.hasSuffix (m ++ [b]) [c] = (c == b) := by
  simp [Lib.hasSuffix, List.isSuffixOf, List.isPrefixOf]

set_option maxRecDepth 100000 in
theorem trim_none (s : List UInt8) (h0 : Lib.hasPrefix s [32] = false) (h1 : Lib.hasSuffix s [32] = false) (h2 : Lib.hasPrefix s [9] = false) (h3 : Lib.hasSuffix s [9] = false) : trim s = s := by
  have k : ∀ b : UInt8, (32 == b) = false → (9 == b) = false → isB b = false := fun b e1 e2 => by
    simp [isB] at e1 e2 ⊢
    constructor
    · intro h; exact e1 (UInt8.toNat_inj.1 (by simpa using (show (32 : Nat) = b.toNat by omega)))
    · intro h; exact e2 (UInt8.toNat_inj.1 (by simpa using (show (9 : Nat) = b.toNat by omega)))
  apply trim_done
  · intro b hb
    cases s with
    | nil => cases hb
    | cons a r => cases hb; rw [pre_one] at h0 h2; exact k _ h0 h2
  · intro b hb
    rcases nil_or_snoc s with rfl | ⟨m, b', rfl⟩
    · cases hb
    · simp at hb; subst hb; rw [suf_one] at h1 h3; exact k _ h1 h3

theorem w_TrimR (n : Nat) : ∀ (s : List UInt8) (w : World), s.length ≤ n → n ≤ 140737488351232 →
    Calls Try.prog 129 #[S s] w fun e w' => e = .returned (S (trim s)) ∧ Below w.heap.size w w' := by
  induction n with
  | zero =>
    intro s w hn hN
    obtain rfl : s = [] := List.eq_nil_of_length_eq_zero (by omega)
    have f0 : Lib.hasPrefix [] [32] = false := rfl
    have f1 : Lib.hasSuffix [] [32] = false := rfl
    have f2 : Lib.hasPrefix [] [9] = false := rfl
    have f3 : Lib.hasSuffix [] [9] = false := rfl
    go_enter Try.func129, Try.ntmps129
    go_wp2_with fail
    refine wp_loop_rounds 3 ?_
    rw [rounds_succ]
    go_wp2_with (first
      | (go_at_call 151; refine (w_HasPrefix _ _ (by first | omega | (simp; done) | (simp; omega)) (by simp) _).mono ?_; rintro e w' ⟨rfl, rfl⟩)
      | (go_at_call 152; refine (w_HasSuffix _ _ (by first | omega | (simp; done) | (simp; omega)) (by simp) _).mono ?_; rintro e w' ⟨rfl, rfl⟩))
    rw [rounds_succ]
    go_wp2_with (first
      | (go_at_call 151; refine (w_HasPrefix _ _ (by first | omega | (simp; done) | (simp; omega)) (by simp) _).mono ?_; rintro e w' ⟨rfl, rfl⟩)
      | (go_at_call 152; refine (w_HasSuffix _ _ (by first | omega | (simp; done) | (simp; omega)) (by simp) _).mono ?_; rintro e w' ⟨rfl, rfl⟩))
    rw [rounds_succ]
    go_wp2_with (first
      | (go_at_call 151; refine (w_HasPrefix _ _ (by first | omega | (simp; done) | (simp; omega)) (by simp) _).mono ?_; rintro e w' ⟨rfl, rfl⟩)
      | (go_at_call 152; refine (w_HasSuffix _ _ (by first | omega | (simp; done) | (simp; omega)) (by simp) _).mono ?_; rintro e w' ⟨rfl, rfl⟩))
    go_ret
    exact ⟨rfl, by go_grown⟩
  | succ n ih =>
    intro s w hn hN
    have IH := Lib.hid ih
    clear ih
    cases h0 : Lib.hasPrefix s [32]
    · cases h1 : Lib.hasSuffix s [32]
      · cases h2 : Lib.hasPrefix s [9]
        · cases h3 : Lib.hasSuffix s [9]
          · have Hf := Lib.hid (trim_none s h0 h1 h2 h3)
            go_enter Try.func129, Try.ntmps129
            go_wp2_with fail
            refine wp_loop_rounds 3 ?_
            rw [rounds_succ]
            go_wp2_with (first
              | (go_at_call 151; refine (w_HasPrefix _ _ (by first | omega | (simp; done) | (simp; omega)) (by simp) _).mono ?_; rintro e w' ⟨rfl, rfl⟩)
              | (go_at_call 152; refine (w_HasSuffix _ _ (by first | omega | (simp; done) | (simp; omega)) (by simp) _).mono ?_; rintro e w' ⟨rfl, rfl⟩))
            rw [rounds_succ]
            go_wp2_with (first
              | (go_at_call 151; refine (w_HasPrefix _ _ (by first | omega | (simp; done) | (simp; omega)) (by simp) _).mono ?_; rintro e w' ⟨rfl, rfl⟩)
              | (go_at_call 152; refine (w_HasSuffix _ _ (by first | omega | (simp; done) | (simp; omega)) (by simp) _).mono ?_; rintro e w' ⟨rfl, rfl⟩))
            rw [rounds_succ]
            go_wp2_with (first
              | (go_at_call 151; refine (w_HasPrefix _ _ (by first | omega | (simp; done) | (simp; omega)) (by simp) _).mono ?_; rintro e w' ⟨rfl, rfl⟩)
              | (go_at_call 152; refine (w_HasSuffix _ _ (by first | omega | (simp; done) | (simp; omega)) (by simp) _).mono ?_; rintro e w' ⟨rfl, rfl⟩))
            go_ret
            exact ⟨ret_S Hf.out.symm, by go_grown⟩
          · rcases nil_or_snoc s with rfl | ⟨m, b, rfl⟩
            · cases h3
            · have hm : m.length + 1 ≤ n + 1 := by simpa using hn
              have Hb := Lib.hid (trim_snoc m b (by rw [suf_one] at h3; simp at h3; subst h3; rfl))
              go_enter Try.func129, Try.ntmps129
              go_wp2_with fail
              refine wp_loop_rounds 2 ?_
              rw [rounds_succ]
              go_wp2_with (first
                | (go_at_call 151; refine (w_HasPrefix _ _ (by first | omega | (simp; done) | (simp; omega)) (by simp) _).mono ?_; rintro e w' ⟨rfl, rfl⟩)
                | (go_at_call 152; refine (w_HasSuffix _ _ (by first | omega | (simp; done) | (simp; omega)) (by simp) _).mono ?_; rintro e w' ⟨rfl, rfl⟩)
                | (go_at_call 129; refine (IH.out m _ (by first | omega | (simp at hn; omega)) (by omega)).mono ?_; rintro e w' ⟨rfl, hb⟩))
              rw [rounds_succ]
              go_wp2_with (first
                | (go_at_call 151; refine (w_HasPrefix _ _ (by first | omega | (simp; done) | (simp; omega)) (by simp) _).mono ?_; rintro e w' ⟨rfl, rfl⟩)
                | (go_at_call 152; refine (w_HasSuffix _ _ (by first | omega | (simp; done) | (simp; omega)) (by simp) _).mono ?_; rintro e w' ⟨rfl, rfl⟩)
                | (go_at_call 129; refine (IH.out m _ (by first | omega | (simp at hn; omega)) (by omega)).mono ?_; rintro e w' ⟨rfl, hb⟩))
              go_ret
              exact ⟨ret_S Hb.out.symm, ((Below.refl _ _).alloc (Nat.le_refl _) _).trans (hb.mono (by simp))⟩
        · rcases s with _ | ⟨a, r⟩
          · cases h2
          · have Hb := Lib.hid (trim_cons a r (by rw [pre_one] at h2; simp at h2; subst h2; rfl))
            go_enter Try.func129, Try.ntmps129
            go_wp2_with fail
            refine wp_loop_rounds 2 ?_
            rw [rounds_succ]
            go_wp2_with (first
              | (go_at_call 151; refine (w_HasPrefix _ _ (by first | omega | (simp; done) | (simp; omega)) (by simp) _).mono ?_; rintro e w' ⟨rfl, rfl⟩)
              | (go_at_call 152; refine (w_HasSuffix _ _ (by first | omega | (simp; done) | (simp; omega)) (by simp) _).mono ?_; rintro e w' ⟨rfl, rfl⟩)
              | (go_at_call 129; refine (IH.out r _ (by first | omega | (simp at hn; omega)) (by omega)).mono ?_; rintro e w' ⟨rfl, hb⟩))
            rw [rounds_succ]
            go_wp2_with (first
              | (go_at_call 151; refine (w_HasPrefix _ _ (by first | omega | (simp; done) | (simp; omega)) (by simp) _).mono ?_; rintro e w' ⟨rfl, rfl⟩)
              | (go_at_call 152; refine (w_HasSuffix _ _ (by first | omega | (simp; done) | (simp; omega)) (by simp) _).mono ?_; rintro e w' ⟨rfl, rfl⟩)
              | (go_at_call 129; refine (IH.out r _ (by first | omega | (simp at hn; omega)) (by omega)).mono ?_; rintro e w' ⟨rfl, hb⟩))
            go_ret
            exact ⟨ret_S Hb.out.symm, ((Below.refl _ _).alloc (Nat.le_refl _) _).trans (hb.mono (by simp))⟩
      · rcases nil_or_snoc s with rfl | ⟨m, b, rfl⟩
        · cases h1
        · have hm : m.length + 1 ≤ n + 1 := by simpa using hn
          have Hb := Lib.hid (trim_snoc m b (by rw [suf_one] at h1; simp at h1; subst h1; rfl))
          go_enter Try.func129, Try.ntmps129
          go_wp2_with fail
          refine wp_loop_rounds 1 ?_
          rw [rounds_succ]
          go_wp2_with (first
            | (go_at_call 151; refine (w_HasPrefix _ _ (by first | omega | (simp; done) | (simp; omega)) (by simp) _).mono ?_; rintro e w' ⟨rfl, rfl⟩)
            | (go_at_call 152; refine (w_HasSuffix _ _ (by first | omega | (simp; done) | (simp; omega)) (by simp) _).mono ?_; rintro e w' ⟨rfl, rfl⟩)
            | (go_at_call 129; refine (IH.out m _ (by first | omega | (simp at hn; omega)) (by omega)).mono ?_; rintro e w' ⟨rfl, hb⟩))
          go_ret
          exact ⟨ret_S Hb.out.symm, ((Below.refl _ _).alloc (Nat.le_refl _) _).trans (hb.mono (by simp))⟩
    · rcases s with _ | ⟨a, r⟩
      · cases h0
      · have Hb := Lib.hid (trim_cons a r (by rw [pre_one] at h0; simp at h0; subst h0; rfl))
        go_enter Try.func129, Try.ntmps129
        go_wp2_with fail
        refine wp_loop_rounds 1 ?_
        rw [rounds_succ]
        go_wp2_with (first
          | (go_at_call 151; refine (w_HasPrefix _ _ (by first | omega | (simp; done) | (simp; omega)) (by simp) _).mono ?_; rintro e w' ⟨rfl, rfl⟩)
          | (go_at_call 152; refine (w_HasSuffix _ _ (by first | omega | (simp; done) | (simp; omega)) (by simp) _).mono ?_; rintro e w' ⟨rfl, rfl⟩)
          | (go_at_call 129; refine (IH.out r _ (by first | omega | (simp at hn; omega)) (by omega)).mono ?_; rintro e w' ⟨rfl, hb⟩))
        go_ret
        exact ⟨ret_S Hb.out.symm, ((Below.refl _ _).alloc (Nat.le_refl _) _).trans (hb.mono (by simp))⟩

theorem w_cut (sg : UInt8) (l : List UInt8) (hl : l.length ≤ 1048576) (w : World) :
    Calls Try.prog 104 #[S l, .int .u8 sg.toNat] w (SlPost encL 9 w (cutE sg l)) := by
  obtain ⟨R, hR⟩ : ∃ R, R = cutE sg l := ⟨_, rfl⟩
  rw [← hR]
  have HR := Lib.hid hR
  clear hR
  go_enter Try.func104, Try.ntmps104
  go_wp2_with fail
  go_loopw [6, 7, 8, 9] (fun o f' q' i' wr => ∃ (k f : Nat) (q : Bool) (acc : List (List UInt8)) (A : Option Addr) (c : Nat), i' = .int .i64 k ∧ f' = .int .i64 f ∧ q' = .bool q ∧ o = .slice A acc.length c ∧
      f ≤ k ∧ f ≤ l.length ∧ k ≤ l.length + 1 ∧ (k ≤ l.length ∨ q = true) ∧ acc.length ≤ k ∧ OwnL encL wr w.heap.size 9 A c acc ∧ Below w.heap.size w wr ∧
      cutP sg (l.drop k) q ((l.drop f).take (k - f)) acc = cutP sg l false [] [])
    (fun _ _ _ i' _ => l.length + 1 - (intOf i').toNat)
  case atStart => exact ⟨0, 0, false, [], none, 0, rfl, rfl, rfl, rfl, by omega, by omega, by omega, .inl (by omega), by simp, OwnL.nil _ _ _, Below.refl _ _, by simp⟩
  case round =>
    obtain ⟨k, f, q, acc, A, c, rfl, rfl, rfl, rfl, hfk, hfl, hkl, hkq, hak, hown, hbel, heq⟩ := hrel
    have Heq := Lib.hid heq; clear heq
    have Hkq := Lib.hid hkq; clear hkq
    by_cases hlt : k < l.length
    · obtain ⟨x, hx, hs⟩ := drop_step hlt
      have hg : ∀ h, l[k]'h = x := fun h => by rw [List.getElem?_eq_getElem h] at hx; exact Option.some.inj hx
      have Hs := Lib.hid hs; clear hs
      have Hseg := Lib.hid (seg_snoc hfk hx); clear hx
      cases hq : isQ x
      · have hq' : ((x.toNat : Int) == 34) = false := hq
        cases q
        · cases hsg : ((x.toNat : Int) == (sg.toNat : Int))
          · have Heq2 := Lib.hid (show cutP sg (l.drop (k + 1)) false ((l.drop (f)).take (k + 1 - (f))) (acc) = cutP sg l false [] [] from by
              rw [← Heq.out, Hs.out, cutP_out _ _ _ _ _ hq hsg, Hseg.out])
            go_wp2_with fail
            go_roundw
            case rel => exact ⟨k + 1, f, false, acc, _, _, by go_num, by first | rfl | go_num, rfl, by simp, by omega, by omega, by omega, .inl (by omega), by first | omega | (simp; omega), hown, hbel, Heq2.out⟩
            case measure => simp [intOf]; omega
          · have Heq2 := Lib.hid (show cutP sg (l.drop (k + 1)) false ((l.drop (k + 1)).take (k + 1 - (k + 1))) (acc ++ [trim (List.take (k - f) (List.drop f l))]) = cutP sg l false [] [] from by
              rw [← Heq.out, Hs.out, cutP_sg _ _ _ _ _ hq hsg]; simp)
            go_wp2_with (first
              | (go_at_call 128; refine (w_trim _ (by simp; omega) _).mono ?_; rintro e w' ⟨rfl, rfl⟩)
              | (at_builtin
                 refine wpList_app encL sl_str [trim (List.take (k - f) (List.drop f l))] rfl _ _ rfl rfl hown #[S (trim (List.take (k - f) (List.drop f l)))] rfl 0 rfl rfl (by omega) (by simp only [maxLen]; omega) hbel.size ?_
                 intro g c' w1 hown1 hg1 hb1 hbg))
            go_roundw
            case rel => exact ⟨k + 1, k + 1, false, acc ++ [trim (List.take (k - f) (List.drop f l))], _, _, by go_num, by first | rfl | go_num, rfl, by simp, by omega, by omega, by omega, .inl (by omega), by first | omega | (simp; omega), hown1, hbel.trans hb1, Heq2.out⟩
            case measure => simp [intOf]; omega
        · cases hb : isBS x
          · have hb' : ((x.toNat : Int) == 92) = false := hb
            have Heq2 := Lib.hid (show cutP sg (l.drop (k + 1)) true ((l.drop (f)).take (k + 1 - (f))) (acc) = cutP sg l false [] [] from by
              rw [← Heq.out, Hs.out, cutP_in _ _ _ _ _ hq hb, Hseg.out])
            go_wp2_with fail
            go_roundw
            case rel => exact ⟨k + 1, f, true, acc, _, _, by go_num, by first | rfl | go_num, rfl, by simp, by omega, by omega, by omega, .inl (by omega), by first | omega | (simp; omega), hown, hbel, Heq2.out⟩
            case measure => simp [intOf]; omega
          · have hb' : ((x.toNat : Int) == 92) = true := hb
            by_cases hlt2 : k + 1 < l.length
            · obtain ⟨d, hd, hs2⟩ := drop_step hlt2
              have Hs2 := Lib.hid hs2; clear hs2
              have Hseg2 := Lib.hid (seg_snoc (f := f) (k := k + 1) (by omega) hd); clear hd
              have Heq2 := Lib.hid (show cutP sg (l.drop (k + 2)) true ((l.drop (f)).take (k + 2 - (f))) (acc) = cutP sg l false [] [] from by
                rw [← Heq.out, Hs.out, Hs2.out, cutP_esc _ _ _ _ _ _ hq hb]; rw [show k + 2 = k + 1 + 1 by omega, Hseg2.out, Hseg.out]; simp)
              go_wp2_with fail
              go_roundw
              case rel => exact ⟨k + 2, f, true, acc, _, _, by go_num, by first | rfl | go_num, rfl, by simp, by omega, by omega, by omega, .inl (by omega), by first | omega | (simp; omega), hown, hbel, Heq2.out⟩
              case measure => simp [intOf]; omega
            · have Heq2 := Lib.hid (show cutP sg (l.drop (k + 2)) true ((l.drop (f)).take (k + 2 - (f))) (acc) = cutP sg l false [] [] from by
                rw [← Heq.out, Hs.out, drop_end hlt2, cutP_esc0 _ _ _ _ hq hb, drop_end (show ¬ k + 2 < l.length by omega)]; rfl)
              go_wp2_with fail
              go_roundw
              case rel => exact ⟨k + 2, f, true, acc, _, _, by go_num, by first | rfl | go_num, rfl, by simp, by omega, by omega, by omega, .inr rfl, by first | omega | (simp; omega), hown, hbel, Heq2.out⟩
              case measure => simp [intOf]; omega
      · have hq' : ((x.toNat : Int) == 34) = true := hq
        cases q
        · have Heq2 := Lib.hid (show cutP sg (l.drop (k + 1)) true ((l.drop (f)).take (k + 1 - (f))) (acc) = cutP sg l false [] [] from by
            rw [← Heq.out, Hs.out, cutP_Q _ _ _ _ _ _ hq, Hseg.out]; rfl)
          go_wp2_with fail
          go_roundw
          case rel => exact ⟨k + 1, f, true, acc, _, _, by go_num, by first | rfl | go_num, rfl, by simp, by omega, by omega, by omega, .inl (by omega), by first | omega | (simp; omega), hown, hbel, Heq2.out⟩
          case measure => simp [intOf]; omega
        · have Heq2 := Lib.hid (show cutP sg (l.drop (k + 1)) false ((l.drop (f)).take (k + 1 - (f))) (acc) = cutP sg l false [] [] from by
            rw [← Heq.out, Hs.out, cutP_Q _ _ _ _ _ _ hq, Hseg.out]; rfl)
          go_wp2_with fail
          go_roundw
          case rel => exact ⟨k + 1, f, false, acc, _, _, by go_num, by first | rfl | go_num, rfl, by simp, by omega, by omega, by omega, .inl (by omega), by first | omega | (simp; omega), hown, hbel, Heq2.out⟩
          case measure => simp [intOf]; omega
    · cases q
      · have hk : k = l.length := by rcases Hkq.out with h | h; omega; cases h
        have Hk := Lib.hid hk; clear hk
        have ht : List.take (l.length - f) (List.drop f l) = List.drop f l := List.take_of_length_le (by simp)
        have HR2 := Lib.hid (show R = .ok (acc ++ [trim (l.drop f)]) from by
          rw [HR.out]; unfold cutE; rw [← Heq.out, drop_end hlt, Hk.out, ht]; rfl)
        go_wp2_with (first
          | (go_at_call 128; refine (w_trim _ (by simp; omega) _).mono ?_; rintro e w' ⟨rfl, rfl⟩)
          | (at_builtin
             refine wpList_app encL sl_str [trim (l.drop f)] rfl _ _ rfl rfl hown #[S (trim (l.drop f))] rfl 0 rfl rfl (by omega) (by simp only [maxLen]; omega) hbel.size ?_
             intro g c' w1 hown1 hg1 hb1 hbg))
        go_ret2
        rw [HR2.out]
        exact ⟨_, c', by simp, hown1, hbel.trans hb1⟩
      · have HR2 := Lib.hid (show R = .error 3 from by rw [HR.out]; unfold cutE; rw [← Heq.out, drop_end hlt]; rfl)
        go_wp2_with fail
        go_ret2
        rw [HR2.out]
        exact ⟨rfl, hbel⟩

/-- What R.parts answers, ahead of the last loop. -/
def PartsPost (t : TypeId) (w : World) (r : List (List UInt8) × Bool) (e : Ending) (w' : World) : Prop :=
  ∃ A c, e = .returned (.tuple #[.slice A (r.1.map trim).length c, .bool r.2]) ∧ OwnL encL w' w.heap.size t A c (r.1.map trim) ∧ Below w.heap.size w w'

theorem w_parts (sg : UInt8) (l : List UInt8) (hl : l.length ≤ 1048576) (w : World) :
    Calls Try.prog 107 #[S l, S [sg]] w (PartsPost 9 w (partsR sg l false false [] [])) := by
  obtain ⟨R, hR⟩ : ∃ R, R = partsR sg l false false [] [] := ⟨_, rfl⟩
  rw [← hR]
  have HR := Lib.hid hR
  clear hR
  go_enter Try.func107, Try.ntmps107
  go_wp2_with fail
  go_loopw [6, 7, 8, 15] (fun o q' n' i' wr => ∃ (k : Nat) (q cn : Bool) (acc : List (List UInt8)) (cur : List UInt8) (g c : Nat), i' = .int .i64 k ∧ q' = .bool q ∧ n' = .bool cn ∧ o = .slice (some ⟨g, 0, none⟩) (acc.length + 1) c ∧
      k ≤ l.length ∧ acc.length ≤ k ∧ cur.length ≤ k ∧ OwnL encL wr w.heap.size 9 (some ⟨g, 0, none⟩) c (acc ++ [cur]) ∧ Below w.heap.size w wr ∧ (∀ s ∈ acc, s.length ≤ l.length) ∧
      partsR sg (l.drop k) q cn acc cur = partsR sg l false false [] [])
    (fun _ _ _ i' _ => l.length - (intOf i').toNat)
  case atStart => exact ⟨0, false, false, [], [], w.heap.size, 1, rfl, rfl, rfl, rfl, by omega, by simp, by simp, own_lit _ _ _ _ _ rfl (by omega) (by simp [maxLen]), (Below.refl _ _).alloc (Nat.le_refl _) _, by simp, rfl⟩
  case round =>
    obtain ⟨k, q, cn, acc, cur, g, c, rfl, rfl, rfl, rfl, hkl, hak, hck, hown, hbel, hall, heq⟩ := hrel
    have Heq := Lib.hid heq; clear heq
    have Hall := Lib.hid hall; clear hall
    by_cases hlt : k < l.length
    · obtain ⟨x, hx, hs⟩ := drop_step hlt
      have ht1 : List.take 1 (List.drop k l) = [x] := by rw [hs]; rfl
      have Hs := Lib.hid hs; clear hs hx
      have hcell := hown.get_S (get_last acc cur)
      have hfz := hown.frozen acc.length
      cases hsg : ((x.toNat : Int) == (sg.toNat : Int))
      · have hsg' : ([x] == [sg]) = false := by rw [sing_q]; exact hsg
        cases cn
        · cases hq : isQ x
          · have hq' : ([x] == [(34 : UInt8)]) = false := by rw [sing_q]; exact hq
            cases hb : isBS x
            · have hb' : ([x] == [(92 : UInt8)]) = false := by rw [sing_q]; exact hb
              have Heq2 := Lib.hid (show partsR sg (l.drop (k + 1)) q false (acc) (cur ++ [x]) = partsR sg l false false [] [] from by
                rw [← Heq.out, Hs.out]; simp [partsR, hsg, hq, hb])
              go_wp2_with fail
              go_roundw
              case rel => exact ⟨k + 1, q, false, acc, cur ++ [x], g, c, by go_num, rfl, rfl, by simp, by omega, by first | omega | (simp; done) | (simp; omega), by first | omega | (simp; done) | (simp; omega), by have := hown.set_S acc.length (cur ++ [x]); rw [set_last] at this; exact this, hbel.setCell (by exact (hown.lt _ rfl).1) _, Hall.out, Heq2.out⟩
              case measure => simp [intOf]; omega
            · have hb' : ([x] == [(92 : UInt8)]) = true := by rw [sing_q]; exact hb
              have Heq2 := Lib.hid (show partsR sg (l.drop (k + 1)) q q (acc) (cur ++ [x]) = partsR sg l false false [] [] from by
                rw [← Heq.out, Hs.out]; simp [partsR, hsg, hq, hb])
              go_wp2_with fail
              go_roundw
              case rel => exact ⟨k + 1, q, q, acc, cur ++ [x], g, c, by go_num, rfl, rfl, by simp, by omega, by first | omega | (simp; done) | (simp; omega), by first | omega | (simp; done) | (simp; omega), by have := hown.set_S acc.length (cur ++ [x]); rw [set_last] at this; exact this, hbel.setCell (by exact (hown.lt _ rfl).1) _, Hall.out, Heq2.out⟩
              case measure => simp [intOf]; omega
          · have hq' : ([x] == [(34 : UInt8)]) = true := by rw [sing_q]; exact hq
            have Heq2 := Lib.hid (show partsR sg (l.drop (k + 1)) (!q) false (acc) (cur ++ [x]) = partsR sg l false false [] [] from by
              rw [← Heq.out, Hs.out]; simp [partsR, hsg, hq])
            go_wp2_with fail
            go_roundw
            case rel => exact ⟨k + 1, (!q), false, acc, cur ++ [x], g, c, by go_num, rfl, rfl, by simp, by omega, by first | omega | (simp; done) | (simp; omega), by first | omega | (simp; done) | (simp; omega), by have := hown.set_S acc.length (cur ++ [x]); rw [set_last] at this; exact this, hbel.setCell (by exact (hown.lt _ rfl).1) _, Hall.out, Heq2.out⟩
            case measure => simp [intOf]; omega
        · have Heq2 := Lib.hid (show partsR sg (l.drop (k + 1)) q false (acc) (cur ++ [x]) = partsR sg l false false [] [] from by
            rw [← Heq.out, Hs.out]; simp [partsR, hsg])
          go_wp2_with fail
          go_roundw
          case rel => exact ⟨k + 1, q, false, acc, cur ++ [x], g, c, by go_num, rfl, rfl, by simp, by omega, by first | omega | (simp; done) | (simp; omega), by first | omega | (simp; done) | (simp; omega), by have := hown.set_S acc.length (cur ++ [x]); rw [set_last] at this; exact this, hbel.setCell (by exact (hown.lt _ rfl).1) _, Hall.out, Heq2.out⟩
          case measure => simp [intOf]; omega
      · have hsg' : ([x] == [sg]) = true := by rw [sing_q]; exact hsg
        cases q
        · have Heq2 := Lib.hid (show partsR sg (l.drop (k + 1)) false cn (acc ++ [cur]) ([]) = partsR sg l false false [] [] from by
            rw [← Heq.out, Hs.out]; simp [partsR, hsg])
          go_wp2_with (at_builtin
                       refine wpList_app encL sl_str [([] : List UInt8)] rfl _ _ rfl (by show Value.slice (some ⟨g, 0, none⟩) (acc.length + 1) c = _; simp) hown #[S []] rfl 0 rfl rfl (by simp; omega) (by simp only [maxLen]; simp; omega) hbel.size ?_
                       intro g' c' w1 hown1 hg1 hb1 hbg)
          go_roundw
          case rel => exact ⟨k + 1, false, cn, acc ++ [cur], [], g', c', by go_num, rfl, rfl, by simp, by omega, by first | omega | (simp; done) | (simp; omega), by first | omega | (simp; done) | (simp; omega), hown1, hbel.trans hb1, by
            intro s hs
            rcases List.mem_append.1 hs with h | h
            · exact Hall.out s h
            · simp at h; subst h; omega, Heq2.out⟩
          case measure => simp [intOf]; omega
        · cases cn
          · cases hq : isQ x
            · have hq' : ([x] == [(34 : UInt8)]) = false := by rw [sing_q]; exact hq
              cases hb : isBS x
              · have hb' : ([x] == [(92 : UInt8)]) = false := by rw [sing_q]; exact hb
                have Heq2 := Lib.hid (show partsR sg (l.drop (k + 1)) true false (acc) (cur ++ [x]) = partsR sg l false false [] [] from by
                  rw [← Heq.out, Hs.out]; simp [partsR, hsg, hq, hb])
                go_wp2_with fail
                go_roundw
                case rel => exact ⟨k + 1, true, false, acc, cur ++ [x], g, c, by go_num, rfl, rfl, by simp, by omega, by first | omega | (simp; done) | (simp; omega), by first | omega | (simp; done) | (simp; omega), by have := hown.set_S acc.length (cur ++ [x]); rw [set_last] at this; exact this, hbel.setCell (by exact (hown.lt _ rfl).1) _, Hall.out, Heq2.out⟩
                case measure => simp [intOf]; omega
              · have hb' : ([x] == [(92 : UInt8)]) = true := by rw [sing_q]; exact hb
                have Heq2 := Lib.hid (show partsR sg (l.drop (k + 1)) true true (acc) (cur ++ [x]) = partsR sg l false false [] [] from by
                  rw [← Heq.out, Hs.out]; simp [partsR, hsg, hq, hb])
                go_wp2_with fail
                go_roundw
                case rel => exact ⟨k + 1, true, true, acc, cur ++ [x], g, c, by go_num, rfl, rfl, by simp, by omega, by first | omega | (simp; done) | (simp; omega), by first | omega | (simp; done) | (simp; omega), by have := hown.set_S acc.length (cur ++ [x]); rw [set_last] at this; exact this, hbel.setCell (by exact (hown.lt _ rfl).1) _, Hall.out, Heq2.out⟩
                case measure => simp [intOf]; omega
            · have hq' : ([x] == [(34 : UInt8)]) = true := by rw [sing_q]; exact hq
              have Heq2 := Lib.hid (show partsR sg (l.drop (k + 1)) false false (acc) (cur ++ [x]) = partsR sg l false false [] [] from by
                rw [← Heq.out, Hs.out]; simp [partsR, hsg, hq])
              go_wp2_with fail
              go_roundw
              case rel => exact ⟨k + 1, false, false, acc, cur ++ [x], g, c, by go_num, rfl, rfl, by simp, by omega, by first | omega | (simp; done) | (simp; omega), by first | omega | (simp; done) | (simp; omega), by have := hown.set_S acc.length (cur ++ [x]); rw [set_last] at this; exact this, hbel.setCell (by exact (hown.lt _ rfl).1) _, Hall.out, Heq2.out⟩
              case measure => simp [intOf]; omega
          · have Heq2 := Lib.hid (show partsR sg (l.drop (k + 1)) true false (acc) (cur ++ [x]) = partsR sg l false false [] [] from by
              rw [← Heq.out, Hs.out]; simp [partsR, hsg])
            go_wp2_with fail
            go_roundw
            case rel => exact ⟨k + 1, true, false, acc, cur ++ [x], g, c, by go_num, rfl, rfl, by simp, by omega, by first | omega | (simp; done) | (simp; omega), by first | omega | (simp; done) | (simp; omega), by have := hown.set_S acc.length (cur ++ [x]); rw [set_last] at this; exact this, hbel.setCell (by exact (hown.lt _ rfl).1) _, Hall.out, Heq2.out⟩
            case measure => simp [intOf]; omega
    · have HR2 := Lib.hid (show R = (acc ++ [cur], !q) from by rw [HR.out, ← Heq.out, drop_end hlt]; rfl)
      have hall : ∀ s ∈ acc ++ [cur], s.length ≤ l.length := by
        intro s hs
        rcases List.mem_append.1 hs with h | h
        · exact Hall.out s h
        · simp at h; subst h; omega
      have Hall2 := Lib.hid hall; clear hall
      have hLl : (acc ++ [cur]).length = acc.length + 1 := by simp
      generalize acc ++ [cur] = L at hown HR2 Hall2 hLl
      have hL1 : L.length ≤ acc.length + 1 := by omega
      have hL2 : acc.length + 1 ≤ L.length := by omega
      have HL := Lib.hid hLl; clear hLl
      have own0 : OwnL encL wr w.heap.size 9 (some ⟨g, 0, none⟩) c ((L.take 0).map trim ++ L.drop 0) := hown
      clear hown
      go_wp2_with fail
      go_loopw [56] (fun i' wr => ∃ j : Nat, i' = .int .i64 j ∧ j ≤ L.length ∧ OwnL encL wr w.heap.size 9 (some ⟨g, 0, none⟩) c ((L.take j).map trim ++ L.drop j) ∧ Below w.heap.size w wr) (fun i' _ => L.length - (intOf i').toNat)
      case atStart => exact ⟨0, rfl, by omega, own0, hbel⟩
      case round =>
        clear own0 hbel
        obtain ⟨j, rfl, hj, hown, hbel⟩ := hrel
        by_cases hlt2 : j < L.length
        · obtain ⟨x, hx, _⟩ := drop_step hlt2
          have hms := map_step trim L j x hx
          have hxl : x.length ≤ 1048576 := by
            have := Hall2.out x (List.mem_of_getElem? hx); omega
          obtain ⟨hm1, hm2⟩ := hms
          have Hm1 := Lib.hid hm1
          have Hm2 := Lib.hid hm2
          clear hx hm1 hm2
          have hcell := hown.get_S Hm1.out
          have hfz := hown.frozen j
          go_wp2_with (go_at_call 129; refine (w_TrimR 1048576 x _ hxl (by omega)).mono ?_; rintro e w1 ⟨rfl, hb⟩; have hown := hown.below hb (Nat.le_refl _); have hbel := hbel.trans (hb.mono hbel.size); have hcell := hown.get_S Hm1.out; have hfz := hown.frozen j)
          go_roundw
          case rel => exact ⟨j + 1, by go_num, by omega, by have := hown.set_S j (trim x); rw [Hm2.out] at this; exact this, hbel.setCell (by exact (hown.lt _ rfl).1) _⟩
          case measure => simp [intOf]; omega
        · have Hd : Hid (j = L.length) := Lib.hid (by omega)
          go_wp2_with fail
          go_ret2
          rw [HR2.out]
          refine ⟨some ⟨g, 0, none⟩, c, ?_, ?_, hbel⟩
          · simp [HL.out]
          · have := hown
            rw [Hd.out, List.take_length, List.drop_length, List.append_nil] at this
            exact this
end Go.Proofs.Ytmhhjmncbclihaa
