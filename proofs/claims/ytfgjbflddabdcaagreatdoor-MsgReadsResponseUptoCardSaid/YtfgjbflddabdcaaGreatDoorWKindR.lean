/- Walk: the reference's BodyKind. -/
import Derived.Test.YtfgjbflddabdcaaGreatDoorWKind
import Derived.Test.YtfgjbflddabdcaaGreatDoorWNum
import Derived.LoopN
namespace Go.Proofs.YtfgjbflddabdcaaGreatDoor
open Go.RowKit Go.Larder
set_option linter.unusedVariables false
set_option linter.unusedSimpArgs false
set_option maxHeartbeats 4000000 in
set_option maxRecDepth 100000 in
theorem w_KindR (req : Bool) (m : List UInt8) (code : Int) (l : List Fld) (hj : (l.map (fun f => f.1.length + f.2.length + 3)).sum ≤ 1048576) (A : Option Addr) (c : Nat) (w : World) (hr : ReadL encF w w.heap.size A l) :
    Calls Tryz.prog 39 #[.bool req, S m, .int .i64 code, .slice A l.length c] w fun e w' => e = .returned (.tuple #[.int .i64 (kindE req m code l).1, .int .i64 (kindE req m code l).2.1, .int .i64 (kindE req m code l).2.2]) ∧ Below w.heap.size w w' := by
  have hgt := fun W hrW => w_GetRS teL (by decide) l hj A c W hrW
  have hgl := fun W hrW => w_GetRS clL (by decide) l hj A c W hrW
  rw [← te_low] at hgt; rw [← cl_low] at hgl
  have hjt := join_ok (nm := lowL teN) hj
  have hjl := join_ok (nm := lowL clN) hj
  unfold kindE
  generalize Lib.join (valsL (lowL teN) l) sepL = vt at *
  generalize Lib.join (valsL (lowL clN) l) sepL = vl at *
  generalize (!(valsL (lowL teN) l).isEmpty) = coded at *
  generalize (!(valsL (lowL clN) l).isEmpty) = sized at *
  have hsp := fun W => wt_SplitR vl (by omega) W
  have hlo := fun W => w_LowerR vt (by omega) W
  have hszd : ∀ n, splitE vl = .error n → n = 2 ∨ n = 3 := fun n hs => by
    unfold splitE at hs
    split at hs
    · injection hs with hs; exact .inl hs.symm
    · revert hs
      cases hc : cutE 44 vl with
      | error k => intro hs; simp only at hs; injection hs with hs; subst hs; exact .inr (cutE_err 44 vl _ hc)
      | ok l => intro hs; simp only at hs; split at hs <;> (first | (injection hs with hs; exact .inl hs.symm) | cases hs)
  obtain ⟨K, hK⟩ : ∃ K, kindI req (noBody req m code) coded sized (lowL vt == chkL) (sizeB vl) = K := ⟨_, rfl⟩
  rw [hK]
  have hc9 : (lowL vt == [99, 104, 117, 110, 107, 101, 100]) = (lowL vt == chkL) := rfl
  generalize (lowL vt == chkL) = chk at *
  generalize lowL vt = lv at *
  have HK := Lib.hid hK
  clear hK
  go_enter Tryz.func39, Tryz.ntmps39
  rcases nb_cases req m code with ⟨hnb, rfl, h⟩ | ⟨hnb, h⟩
  · have HK2 := Lib.hid (show K = (1, 0, 0) from by rw [← HK.out, hnb]; simp [kindI])
    clear hnb HK hsp hlo hc9 hgt hgl hszd
    rcases h with h1 | ⟨h1, h2 | ⟨h2, h3 | ⟨h3, h4⟩⟩⟩
    · have c1 : m = [72, 69, 65, 68] := by simpa [headL] using h1
      subst c1
      clear h1
      go_wp2_with fail
      go_ret3
      rw [HK2.out]
      exact ⟨rfl, Below.refl _ _⟩
    all_goals
      have c1 : (m == [72, 69, 65, 68]) = false := h1
      clear h1
      try have c2 : decide (code < 200) = true := decide_eq_true (by assumption)
      try have c2 : decide (code < 200) = false := decide_eq_false (by assumption)
      go_wp2_with fail
      go_ret3
      rw [HK2.out]
      exact ⟨rfl, Below.refl _ _⟩
  · have HK2 := Lib.hid (show kindI req false coded sized chk (sizeB vl) = K from by rw [← hnb]; exact HK.out)
    clear HK hnb
    rcases h with rfl | ⟨rfl, h1, h2, h3, h4⟩
    · skip
      go_wp2_with fail
      refine (hgl _ hr).mono ?_
      rintro e w1 ⟨rfl, hb1⟩
      go_wp2_with fail
      refine (hgt _ ((hr.below hb1 (Nat.le_refl _)).more hb1.size)).mono ?_
      rintro e w2 ⟨rfl, hb2⟩
      have hbw2 := hb1.trans (hb2.mono hb1.size)
      clear hgt hgl hr hb1 hb2 hj
      cases coded
      · cases sized
        · have HK3 := Lib.hid (show K = (1, 0, 0) from by rw [← HK2.out]; simp [kindI])
          clear HK2
          go_wp2_with fail
          go_ret3
          rw [HK3.out]
          exact ⟨rfl, hbw2⟩
        · have HK4 := Lib.hid (show (if (sizeB vl).2 = 0 then ((2, (sizeB vl).1, 0) : Int × Int × Int) else (0, 0, (sizeB vl).2)) = K from by rw [← HK2.out]; simp [kindI])
          clear HK2 hlo hc9
          go_wp2_with fail
          refine (hsp _).mono ?_
          intro e w3 hpost
          cases hs : splitE vl with
          | error n =>
            have HK3 := Lib.hid (show K = (0, 0, 10) from by rw [← HK4.out, sizeB_err hs]; simp)
            obtain ⟨rfl, hb3⟩ := hpost.err hs
            have hn := hszd n hs
            have hbw3 := hbw2.trans (hb3.mono hbw2.size)
            clear hpost hsp hs HK4 hszd
            rcases hn with rfl | rfl
            all_goals
              go_wp2_with fail
              go_ret3
              rw [HK3.out]
              exact ⟨rfl, hbw3⟩
          | ok l0 =>
            have hl20 := splitE_ok hs
            have htx := splitE_text hs
            have HK5 := Lib.hid (show (if (sizeL l0).2 = 0 then ((2, (sizeL l0).1, 0) : Int × Int × Int) else (0, 0, (sizeL l0).2)) = K from by rw [← HK4.out, sizeB_ok hs])
            obtain ⟨A3, c3, rfl, ho3, hb3⟩ := hpost.ok_ hs
            have hr3 := ho3.read
            have hbw3 := hbw2.trans (hb3.mono hbw2.size)
            clear hpost hsp hs ho3 HK4 hszd hb3
            rcases l0 with _ | ⟨t, r⟩
            · have HK3 := Lib.hid (show K = (0, 0, 10) from by rw [← HK5.out]; simp [sizeL])
              go_wp2_with fail
              go_ret3
              rw [HK3.out]
              exact ⟨rfl, hbw3⟩
            · have htl := htx t (by simp)
              obtain ⟨g, off, rfl, hgb, hc0⟩ := hr3.at_S (k := 0) (x := t) rfl
              rw [Nat.add_zero] at hc0
              have hct := fun W => w_count t (by omega) 9999 (by omega) W
              obtain ⟨L, hL⟩ : ∃ L, t :: r = L := ⟨_, rfl⟩
              have hLl : L.length = r.length + 1 := by rw [← hL]; rfl
              have hL1 : L.length ≤ r.length + 1 := Nat.le_of_eq hLl
              have hL2 : r.length + 1 ≤ L.length := Nat.le_of_eq hLl.symm
              rw [hL] at hr3 hl20 HK5
              have HL := Lib.hid hL
              clear htx hL hLl
              have hneg : ((L.length : Int) == 0) = false := by
                have : ¬ (L.length : Int) = 0 := by omega
                simpa using this
              have hp0 : 0 < L.length := by omega
              by_cases hcp : 0 ≤ cnt t 9999
              · have hcb := (cnt_yes hcp).2
                obtain ⟨cn, hcn⟩ : ∃ cn, cnt t 9999 = cn := ⟨_, rfl⟩
                rw [hcn] at hct hcp hcb
                have Hcn := Lib.hid hcn
                clear hcn
                have b9 : decide (cn < 0) = false := decide_eq_false (by omega)
                go_wp2_with (go_at_call 55; refine (hct _).mono ?_; rintro e w' ⟨rfl, rfl⟩)
                go_loopw [76] (fun i' wr => ∃ k : Nat, i' = .int .i64 k ∧ k ≤ L.length ∧ Hid ((L.take k).all (· == t) = true) ∧ wr = w3) (fun i' _ => L.length - (intOf i').toNat)
                case atStart => exact ⟨0, rfl, by omega, Lib.hid rfl, by trivial⟩
                case round =>
                  obtain ⟨k, rfl, hk, hall, rfl⟩ := hrel
                  by_cases hlt : k < L.length
                  · obtain ⟨x, hx, hxs⟩ := drop_step hlt
                    have hck : wr.cell? ⟨g, off + k, none⟩ = some (S x) := by
                      obtain ⟨g', off', hA', _, hc'⟩ := hr3.at_S hx
                      injection hA' with hA'
                      injection hA' with e1 e2
                      subst e1 e2
                      exact hc'
                    have hsn : (L.take (k + 1)).all (· == t) = ((L.take k).all (· == t) && (x == t)) := by rw [List.take_add_one, hx]; simp
                    rw [hall.out] at hsn
                    cases hxt : (x == t)
                    · have hrall : r.all (· == t) = false := by
                        have h1 : L.all (· == t) = false := by
                          rw [Bool.eq_false_iff]
                          intro h
                          have := List.all_eq_true.1 h x (List.mem_of_getElem? hx)
                          rw [hxt] at this; cases this
                        rw [← HL.out, List.all_cons] at h1
                        simpa using h1
                      have HK3 := Lib.hid (show K = (0, 0, 10) from by rw [← HK5.out, ← HL.out, sizeL_ne hrall]; simp)
                      have hxe : ¬ x = t := by simpa using hxt
                      clear hsn hxs hx hall
                      go_wp2_with fail
                      go_ret3
                      rw [HK3.out]
                      exact ⟨rfl, hbw3⟩
                    · have hxe : x = t := by simpa using hxt
                      rw [hxt] at hsn
                      have Hn := Lib.hid (show (L.take (k + 1)).all (· == t) = true from hsn)
                      subst hxe
                      clear hsn hxs hx hall hxt
                      go_wp2_with fail
                      go_roundw
                      case rel => exact ⟨k + 1, by go_num, by omega, Hn, by trivial⟩
                      case measure => simp [intOf]; omega
                  · obtain rfl : k = L.length := by omega
                    have hLall := hall.out
                    rw [List.take_length, ← HL.out, List.all_cons] at hLall
                    have hrall : r.all (· == t) = true := by simpa using hLall
                    have hK6 := HK5.out
                    rw [← HL.out, sizeL_eq hrall, Hcn.out, if_pos hcp] at hK6
                    clear hall HL hLall HK5 hrall
                    by_cases hbig : 5000 < cn
                    · have HK3 := Lib.hid (show K = (0, 0, 2) from by rw [← hK6, if_pos hbig]; simp)
                      clear hK6
                      go_wp2_with fail
                      go_ret3
                      rw [HK3.out]
                      exact ⟨rfl, hbw3⟩
                    · have HK3 := Lib.hid (show K = (2, cn, 0) from by rw [← hK6, if_neg hbig]; simp)
                      clear hK6
                      go_wp2_with fail
                      go_ret3
                      rw [HK3.out]
                      exact ⟨rfl, hbw3⟩
              · have HK3 := Lib.hid (show K = (0, 0, 10) from by
                  rw [← HK5.out, ← HL.out]
                  simp [sizeL, hcp])
                have b9 : decide (cnt t 9999 < 0) = true := decide_eq_true (by omega)
                have hcl : cnt t 9999 < 0 := by omega
                generalize cnt t 9999 = cn at *
                clear HK5 HL hcp
                go_wp2_with (go_at_call 55; refine (hct _).mono ?_; rintro e w' ⟨rfl, rfl⟩)
                refine wp_loop_rounds 1 ?_
                rw [rounds_succ]
                have hlt0 : (0 : Int) < (L.length : Int) := by omega
                go_wp2_with fail
                go_ret3
                rw [HK3.out]
                exact ⟨rfl, hbw3⟩
      · cases sized
        · cases chk
          · have HK3 := Lib.hid (show K = (0, 0, 10) from by rw [← HK2.out]; simp [kindI])
            clear HK2
            go_wp2_with (go_at_call 69; refine (hlo _).mono ?_; rintro e w' ⟨rfl, rfl⟩)
            go_ret3
            rw [HK3.out]
            exact ⟨rfl, hbw2⟩
          · have HK3 := Lib.hid (show K = (3, 0, 0) from by rw [← HK2.out]; simp [kindI])
            clear HK2
            go_wp2_with (go_at_call 69; refine (hlo _).mono ?_; rintro e w' ⟨rfl, rfl⟩)
            go_ret3
            rw [HK3.out]
            exact ⟨rfl, hbw2⟩
        · have HK3 := Lib.hid (show K = (0, 0, 10) from by rw [← HK2.out]; simp [kindI])
          clear HK2
          go_wp2_with fail
          go_ret3
          rw [HK3.out]
          exact ⟨rfl, hbw2⟩
    · have c1 : (m == [72, 69, 65, 68]) = false := h1
      have c2 : decide (code < 200) = false := decide_eq_false h2
      clear h1
      go_wp2_with fail
      refine (hgl _ hr).mono ?_
      rintro e w1 ⟨rfl, hb1⟩
      go_wp2_with fail
      refine (hgt _ ((hr.below hb1 (Nat.le_refl _)).more hb1.size)).mono ?_
      rintro e w2 ⟨rfl, hb2⟩
      have hbw2 := hb1.trans (hb2.mono hb1.size)
      clear hgt hgl hr hb1 hb2 hj
      cases coded
      · cases sized
        · have HK3 := Lib.hid (show K = (4, 0, 0) from by rw [← HK2.out]; simp [kindI])
          clear HK2
          go_wp2_with fail
          go_ret3
          rw [HK3.out]
          exact ⟨rfl, hbw2⟩
        · have HK4 := Lib.hid (show (if (sizeB vl).2 = 0 then ((2, (sizeB vl).1, 0) : Int × Int × Int) else (0, 0, (sizeB vl).2)) = K from by rw [← HK2.out]; simp [kindI])
          clear HK2 hlo hc9
          go_wp2_with fail
          refine (hsp _).mono ?_
          intro e w3 hpost
          cases hs : splitE vl with
          | error n =>
            have HK3 := Lib.hid (show K = (0, 0, 10) from by rw [← HK4.out, sizeB_err hs]; simp)
            obtain ⟨rfl, hb3⟩ := hpost.err hs
            have hn := hszd n hs
            have hbw3 := hbw2.trans (hb3.mono hbw2.size)
            clear hpost hsp hs HK4 hszd
            rcases hn with rfl | rfl
            all_goals
              go_wp2_with fail
              go_ret3
              rw [HK3.out]
              exact ⟨rfl, hbw3⟩
          | ok l0 =>
            have hl20 := splitE_ok hs
            have htx := splitE_text hs
            have HK5 := Lib.hid (show (if (sizeL l0).2 = 0 then ((2, (sizeL l0).1, 0) : Int × Int × Int) else (0, 0, (sizeL l0).2)) = K from by rw [← HK4.out, sizeB_ok hs])
            obtain ⟨A3, c3, rfl, ho3, hb3⟩ := hpost.ok_ hs
            have hr3 := ho3.read
            have hbw3 := hbw2.trans (hb3.mono hbw2.size)
            clear hpost hsp hs ho3 HK4 hszd hb3
            rcases l0 with _ | ⟨t, r⟩
            · have HK3 := Lib.hid (show K = (0, 0, 10) from by rw [← HK5.out]; simp [sizeL])
              go_wp2_with fail
              go_ret3
              rw [HK3.out]
              exact ⟨rfl, hbw3⟩
            · have htl := htx t (by simp)
              obtain ⟨g, off, rfl, hgb, hc0⟩ := hr3.at_S (k := 0) (x := t) rfl
              rw [Nat.add_zero] at hc0
              have hct := fun W => w_count t (by omega) 9999 (by omega) W
              obtain ⟨L, hL⟩ : ∃ L, t :: r = L := ⟨_, rfl⟩
              have hLl : L.length = r.length + 1 := by rw [← hL]; rfl
              have hL1 : L.length ≤ r.length + 1 := Nat.le_of_eq hLl
              have hL2 : r.length + 1 ≤ L.length := Nat.le_of_eq hLl.symm
              rw [hL] at hr3 hl20 HK5
              have HL := Lib.hid hL
              clear htx hL hLl
              have hneg : ((L.length : Int) == 0) = false := by
                have : ¬ (L.length : Int) = 0 := by omega
                simpa using this
              have hp0 : 0 < L.length := by omega
              by_cases hcp : 0 ≤ cnt t 9999
              · have hcb := (cnt_yes hcp).2
                obtain ⟨cn, hcn⟩ : ∃ cn, cnt t 9999 = cn := ⟨_, rfl⟩
                rw [hcn] at hct hcp hcb
                have Hcn := Lib.hid hcn
                clear hcn
                have b9 : decide (cn < 0) = false := decide_eq_false (by omega)
                go_wp2_with (go_at_call 55; refine (hct _).mono ?_; rintro e w' ⟨rfl, rfl⟩)
                go_loopw [76] (fun i' wr => ∃ k : Nat, i' = .int .i64 k ∧ k ≤ L.length ∧ Hid ((L.take k).all (· == t) = true) ∧ wr = w3) (fun i' _ => L.length - (intOf i').toNat)
                case atStart => exact ⟨0, rfl, by omega, Lib.hid rfl, by trivial⟩
                case round =>
                  obtain ⟨k, rfl, hk, hall, rfl⟩ := hrel
                  by_cases hlt : k < L.length
                  · obtain ⟨x, hx, hxs⟩ := drop_step hlt
                    have hck : wr.cell? ⟨g, off + k, none⟩ = some (S x) := by
                      obtain ⟨g', off', hA', _, hc'⟩ := hr3.at_S hx
                      injection hA' with hA'
                      injection hA' with e1 e2
                      subst e1 e2
                      exact hc'
                    have hsn : (L.take (k + 1)).all (· == t) = ((L.take k).all (· == t) && (x == t)) := by rw [List.take_add_one, hx]; simp
                    rw [hall.out] at hsn
                    cases hxt : (x == t)
                    · have hrall : r.all (· == t) = false := by
                        have h1 : L.all (· == t) = false := by
                          rw [Bool.eq_false_iff]
                          intro h
                          have := List.all_eq_true.1 h x (List.mem_of_getElem? hx)
                          rw [hxt] at this; cases this
                        rw [← HL.out, List.all_cons] at h1
                        simpa using h1
                      have HK3 := Lib.hid (show K = (0, 0, 10) from by rw [← HK5.out, ← HL.out, sizeL_ne hrall]; simp)
                      have hxe : ¬ x = t := by simpa using hxt
                      clear hsn hxs hx hall
                      go_wp2_with fail
                      go_ret3
                      rw [HK3.out]
                      exact ⟨rfl, hbw3⟩
                    · have hxe : x = t := by simpa using hxt
                      rw [hxt] at hsn
                      have Hn := Lib.hid (show (L.take (k + 1)).all (· == t) = true from hsn)
                      subst hxe
                      clear hsn hxs hx hall hxt
                      go_wp2_with fail
                      go_roundw
                      case rel => exact ⟨k + 1, by go_num, by omega, Hn, by trivial⟩
                      case measure => simp [intOf]; omega
                  · obtain rfl : k = L.length := by omega
                    have hLall := hall.out
                    rw [List.take_length, ← HL.out, List.all_cons] at hLall
                    have hrall : r.all (· == t) = true := by simpa using hLall
                    have hK6 := HK5.out
                    rw [← HL.out, sizeL_eq hrall, Hcn.out, if_pos hcp] at hK6
                    clear hall HL hLall HK5 hrall
                    by_cases hbig : 5000 < cn
                    · have HK3 := Lib.hid (show K = (0, 0, 2) from by rw [← hK6, if_pos hbig]; simp)
                      clear hK6
                      go_wp2_with fail
                      go_ret3
                      rw [HK3.out]
                      exact ⟨rfl, hbw3⟩
                    · have HK3 := Lib.hid (show K = (2, cn, 0) from by rw [← hK6, if_neg hbig]; simp)
                      clear hK6
                      go_wp2_with fail
                      go_ret3
                      rw [HK3.out]
                      exact ⟨rfl, hbw3⟩
              · have HK3 := Lib.hid (show K = (0, 0, 10) from by
                  rw [← HK5.out, ← HL.out]
                  simp [sizeL, hcp])
                have b9 : decide (cnt t 9999 < 0) = true := decide_eq_true (by omega)
                have hcl : cnt t 9999 < 0 := by omega
                generalize cnt t 9999 = cn at *
                clear HK5 HL hcp
                go_wp2_with (go_at_call 55; refine (hct _).mono ?_; rintro e w' ⟨rfl, rfl⟩)
                refine wp_loop_rounds 1 ?_
                rw [rounds_succ]
                have hlt0 : (0 : Int) < (L.length : Int) := by omega
                go_wp2_with fail
                go_ret3
                rw [HK3.out]
                exact ⟨rfl, hbw3⟩
      · cases sized
        · cases chk
          · have HK3 := Lib.hid (show K = (0, 0, 10) from by rw [← HK2.out]; simp [kindI])
            clear HK2
            go_wp2_with (go_at_call 69; refine (hlo _).mono ?_; rintro e w' ⟨rfl, rfl⟩)
            go_ret3
            rw [HK3.out]
            exact ⟨rfl, hbw2⟩
          · have HK3 := Lib.hid (show K = (3, 0, 0) from by rw [← HK2.out]; simp [kindI])
            clear HK2
            go_wp2_with (go_at_call 69; refine (hlo _).mono ?_; rintro e w' ⟨rfl, rfl⟩)
            go_ret3
            rw [HK3.out]
            exact ⟨rfl, hbw2⟩
        · have HK3 := Lib.hid (show K = (0, 0, 10) from by rw [← HK2.out]; simp [kindI])
          clear HK2
          go_wp2_with fail
          go_ret3
          rw [HK3.out]
          exact ⟨rfl, hbw2⟩
end Go.Proofs.YtfgjbflddabdcaaGreatDoor
