/- Walk: target.Normal. -/
import Derived.Test.YtldlbfdfaigkcaaDoorWNrm0
import Derived.Test.YtldlbfdfaigkcaaDoorWNrmD
namespace Go.Larder
theorem nrmE_big {l : List UInt8} (h : 200 < l.length) : nrmE l = .error 2 := by unfold nrmE; rw [if_pos h]
theorem nrmE_bad {l : List UInt8} (h : ¬ 200 < l.length) (hb : (Lib.hasPrefix l [47] && l.all okN) = false) : nrmE l = .error 3 := by unfold nrmE; rw [if_neg h, if_neg (by simp [hb])]
theorem nrmE_none {l : List UInt8} (h : ¬ 200 < l.length) (hb : (Lib.hasPrefix l [47] && l.all okN) = true) (hu : unP l [] = none) : nrmE l = .error 3 := by unfold nrmE; rw [if_neg h, if_pos hb, hu]
theorem nrmE_some {l : List UInt8} {ps : List EB} (h : ¬ 200 < l.length) (hb : (Lib.hasPrefix l [47] && l.all okN) = true) (hu : unP l [] = some ps) : nrmE l = .ok (nrmB (emAll ps)) := by unfold nrmE; rw [if_neg h, if_pos hb, hu]
theorem nrmE_none' {l : List UInt8} (h : ¬ 200 < l.length) (hu : unP l [] = none) : nrmE l = .error 3 := by
  cases hb : Lib.hasPrefix l [47] && l.all okN
  · exact nrmE_bad h hb
  · exact nrmE_none h hb hu
theorem hp47 (r : List UInt8) : Lib.hasPrefix (47 :: r) [47] = true := by simp [Lib.hasPrefix, List.isPrefixOf]
theorem hp47n {x : UInt8} (r : List UInt8) (h : x ≠ 47) : Lib.hasPrefix (x :: r) [47] = false := by simp [Lib.hasPrefix, List.isPrefixOf]; exact fun e => h e.symm
theorem cut47 (b : List UInt8) : cut1 63 (47 :: b) = (47 :: (cut1 63 b).1, (cut1 63 b).2.1, (cut1 63 b).2.2) := by
  conv => lhs; unfold cut1
  simp
theorem em47 {r : List UInt8} {ps : List EB} (h : unP (47 :: r) [] = some ps) (hr : (47 :: r).length ≤ 200) : ∃ b, emAll ps = 47 :: b ∧ b.length ≤ 600 := by
  have hl := unP_len _ (47 :: r) [] ps (Nat.le_refl _) h
  rw [unP_plain (by decide)] at h
  obtain ⟨t, ht⟩ := unP_head _ r _ ps (Nat.le_refl _) h
  have he := emAll_len ps
  refine ⟨emAll t, by rw [ht]; simp [emAll, emP_plain], ?_⟩
  have : (emAll ps).length = 1 + (emAll t).length := by rw [ht]; simp [emAll, emP_plain]; omega
  simp only [List.length_nil] at hl
  omega
theorem all_snoc {f : UInt8 → Bool} {l : List UInt8} {k : Nat} {x : UInt8} (h : l[k]? = some x) : (l.take (k + 1)).all f = ((l.take k).all f && f x) := by
  rw [List.take_add_one, h]; simp
end Go.Larder
namespace Go.Proofs.YtldlbfdfaigkcaaDoor
open Go.RowKit Go.Larder
set_option linter.unusedVariables false
set_option linter.unusedSimpArgs false
theorem okN_cases (c : UInt8) : (okN c = true ∧ (33 : Int) ≤ c.toNat ∧ (c.toNat : Int) ≤ 126 ∧ ((c.toNat : Int) == 35) = false) ∨ (okN c = false ∧ ((c.toNat : Int) < 33 ∨ ((33 : Int) ≤ c.toNat ∧ ((126 : Int) < c.toNat ∨ ((c.toNat : Int) ≤ 126 ∧ ((c.toNat : Int) == 35) = true))))) := by
  have h35 : (c == 35) = ((c.toNat : Int) == 35) := by
    rw [Bool.eq_iff_iff]
    simp only [beq_iff_eq, ← UInt8.toNat_inj]
    show c.toNat = 35 ↔ _
    omega
  unfold okN
  rw [h35]
  by_cases a : 33 ≤ c.toNat
  · by_cases b : c.toNat ≤ 126
    · cases h : ((c.toNat : Int) == 35)
      · exact .inl ⟨by simp [a, b], by omega, by omega, rfl⟩
      · exact .inr ⟨by simp [a, b], .inr ⟨by omega, .inr ⟨by omega, rfl⟩⟩⟩
    · exact .inr ⟨by simp [b], .inr ⟨by omega, .inl (by omega)⟩⟩
  · exact .inr ⟨by simp [a], .inl (by omega)⟩
set_option maxHeartbeats 4000000 in
set_option maxRecDepth 100000 in
theorem w_Normal (l : List UInt8) (hl : l.length ≤ 140737488351232) (w : World) (hM : ML w) :
    Calls Tryd.prog 29 #[S l] w (StPost w (nrmE l)) := by
  by_cases hbig : 200 < l.length
  · rw [nrmE_big hbig]
    go_enter Tryd.func29, Tryd.ntmps29
    go_wp2_with fail
    go_ret2
    exact ⟨rfl, Below.refl _ _⟩
  · rcases l with _ | ⟨x, r⟩
    · rw [nrmE_bad hbig rfl]
      go_enter Tryd.func29, Tryd.ntmps29
      go_wp2_with fail
      go_ret2
      exact ⟨rfl, Below.refl _ _⟩
    · by_cases hx : x = 47
      · subst hx
        have hlen : (47 :: r).length ≤ 200 := by omega
        have hrl : r.length + 1 ≤ 200 := by simpa using hlen
        have hp := hp47 r
        have hbox : BoxB (w.alloc (.cells #[.slice none 0 0] 66)) w.heap.size (emAll []) := ⟨none, 0, by rw [cell_of_row _ _ _ _ _ (0, 0) (heap_alloc_new w _)]; rfl, Lib.frozen_of_heap (heap_alloc_new w _) 0, OwnL.nil _ _ _, by simp⟩
        have hec := w_eachN (47 :: r) hlen w.heap.size _ hbox
        have hpl : (47 :: r).length = r.length + 1 := rfl
        have hend : ∀ g0 : Bool, g0 = (unP (47 :: r) []).isSome → (g0 && (47 :: r).all okN) = false → nrmE (47 :: r) = .error 3 := by
          intro g0 h1 h2
          cases hu : unP (47 :: r) [] with
          | none => exact nrmE_none' hbig hu
          | some ps =>
            rw [hu] at h1
            simp only [Option.isSome_some] at h1
            subst h1
            exact nrmE_bad hbig (by rw [hp]; exact h2)
        have hend2 : ∀ ps, unP (47 :: r) [] = some ps → (47 :: r).all okN = true → nrmE (47 :: r) = .ok (nrmB (emAll ps)) := fun ps hu ho => nrmE_some hbig (by rw [hp, ho]; rfl) hu
        have hem : ∀ ps, unP (47 :: r) [] = some ps → ∃ b, emAll ps = 47 :: b ∧ b.length ≤ 600 := fun ps hu => em47 hu hlen
        obtain ⟨g0, hg0⟩ : ∃ g0 : Bool, g0 = (unP (47 :: r) []).isSome := ⟨_, rfl⟩
        have hec2 : Calls Tryd.prog 67 #[S (47 :: r), .func (.func 68) #[] #[.pointer (some ⟨w.heap.size, 0, none⟩)]] (w.alloc (.cells #[.slice none 0 0] 66))
            (fun e w' => e = .returned (.bool g0) ∧ (g0 = true → ∃ ps, unP (47 :: r) [] = some ps ∧ BoxB w' w.heap.size (emAll ps)) ∧ Below w.heap.size (w.alloc (.cells #[.slice none 0 0] 66)) w') := by
          refine hec.mono ?_
          rintro e w' ⟨h1, h2⟩
          cases hu : unP (47 :: r) [] with
          | none =>
            rw [hu] at h1 hg0
            subst hg0
            exact ⟨h1, fun h => by simp at h, h2⟩
          | some ps =>
            rw [hu] at h1 hg0
            subst hg0
            exact ⟨h1.1, fun _ => ⟨ps, rfl, h1.2⟩, h2⟩
        have Hend := Lib.hid (hend g0 hg0)
        have Hend2 := Lib.hid hend2
        have Hem := Lib.hid hem
        obtain ⟨E, hE⟩ : ∃ E, nrmE (47 :: r) = E := ⟨_, rfl⟩
        rw [hE]
        have HE := Lib.hid hE
        have hL : (47 :: r : List UInt8).length = r.length + 1 := rfl
        clear hE hend hend2 hem hec hg0 hp hbig hl hpl hbox
        have hb0 : Below w.heap.size w (w.alloc (.cells #[.slice none 0 0] 66)) := (Below.refl _ _).alloc (Nat.le_refl _) _
        go_enter Tryd.func29, Tryd.ntmps29
        go_wp2_with (go_at_call 67; refine hec2.mono ?_; rintro e w1 ⟨rfl, hps, hb1⟩)
        have hbw1 : Below w.heap.size w w1 := hb0.trans (hb1.mono (by simp))
        have hs1 : w.heap.size + 1 ≤ w1.heap.size := by have := hb1.size; simpa using this
        have Hps := Lib.hid hps
        clear hps hec2 hb0 hb1
        obtain ⟨l, hl0⟩ : ∃ l, (47 :: r : List UInt8) = l := ⟨_, rfl⟩
        rw [hl0] at hL Hend Hend2 HE Hps Hem ⊢
        clear hl0
        have hL1 : l.length ≤ r.length + 1 := Nat.le_of_eq hL
        have hL2 : r.length + 1 ≤ l.length := Nat.le_of_eq hL.symm
        clear hL
        go_loop [5, 25] (fun g i' => ∃ k : Nat, i' = .int .i64 k ∧ g = .bool (g0 && (l.take k).all okN) ∧ k ≤ l.length) (fun _ i' => l.length - (intOf i').toNat)
        case atStart => exact ⟨0, rfl, by simp, by omega⟩
        case round =>
          obtain ⟨k, rfl, rfl, hk⟩ := hrel
          obtain ⟨gb, hgb⟩ : ∃ gb, (g0 && (l.take k).all okN) = gb := ⟨_, rfl⟩
          rw [hgb]
          by_cases hlt : k < l.length
          · have a1 : (k : Int) < (r.length : Int) + 1 := by omega
            obtain ⟨x, hx, -⟩ := drop_step hlt
            have hg : ∀ h, l[k]'h = x := fun h => by rw [List.getElem?_eq_getElem h] at hx; exact Option.some.inj hx
            have hnext : (g0 && (l.take (k + 1)).all okN) = (gb && okN x) := by rw [all_snoc hx, ← hgb, Bool.and_assoc]
            have Hn := Lib.hid hnext
            clear hnext hx hgb
            cases gb
            · go_wp2_with fail
              go_round
              case rel => exact ⟨k + 1, by go_num, by rw [Hn.out]; rfl, by omega⟩
              case measure => simp [intOf]; omega
            · rcases okN_cases x with ⟨ho, h1, h2, h3⟩ | ⟨ho, h⟩
              · rw [ho] at Hn
                go_wp2_with fail
                go_round
                case rel => exact ⟨k + 1, by go_num, by rw [Hn.out]; rfl, by omega⟩
                case measure => simp [intOf]; omega
              · rw [ho] at Hn
                rcases h with h | ⟨h1, h | ⟨h2, h3⟩⟩
                · go_wp2_with fail
                  go_round
                  case rel => exact ⟨k + 1, by go_num, by rw [Hn.out]; rfl, by omega⟩
                  case measure => simp [intOf]; omega
                · go_wp2_with fail
                  go_round
                  case rel => exact ⟨k + 1, by go_num, by rw [Hn.out]; rfl, by omega⟩
                  case measure => simp [intOf]; omega
                · go_wp2_with fail
                  go_round
                  case rel => exact ⟨k + 1, by go_num, by rw [Hn.out]; rfl, by omega⟩
                  case measure => simp [intOf]; omega
          · have a1 : ¬ (k : Int) < (r.length : Int) + 1 := by omega
            obtain rfl : k = l.length := by omega
            rw [List.take_length] at hgb
            cases gb
            · have HE2 := Lib.hid (show E = .error 3 from by rw [← HE.out]; exact Hend.out hgb)
              clear hgb
              go_wp2_with fail
              go_ret2
              rw [HE2.out]
              exact ⟨rfl, hbw1⟩
            · have hgg : g0 = true ∧ l.all okN = true := by simpa using hgb
              clear hgb
              obtain ⟨ps, hu, A, cp, hc1, hf1, ho1, hbb⟩ := Hps.out hgg.1
              obtain ⟨b, hb, hbl⟩ := Hem.out ps hu
              have HE2 := Lib.hid (show E = .ok (nrmB (emAll ps)) from by rw [← HE.out]; exact Hend2.out ps hu hgg.2)
              rw [hb] at HE2 hc1 ho1
              have hback : (convert 66 9 (.slice A (b.length + 1) cp)).run Tryd.prog w1 = .ok (S (47 :: b)) w1 := run_bytes_str (P := Tryd.prog) 66 9 Tryd.underlying66 Tryd.underlying5 Tryd.underlying9 ho1.read cp
              have hct := c1_Cut (47 :: b) 63 (by simp; omega)
              have hnb : nrmB (47 :: b) = ([47] ++ Lib.join (nrm [] (spl 47 (cut1 63 b).1)) [47]) ++ (if (cut1 63 b).2.2 then [63] ++ (cut1 63 b).2.1 else []) := by unfold nrmB; rw [cut47]; rfl
              rw [hnb] at HE2
              rw [cut47] at hct
              have hcl := cut1_len 63 b
              have hcf := cut1_false (c := 63) (l := b)
              clear hnb hgg hu hb ho1 Hend Hend2 Hem Hps HE
              obtain ⟨⟨p, q, is⟩, hcut⟩ : ∃ t, cut1 63 b = t := ⟨_, rfl⟩
              rw [hcut] at HE2 hct hcl hcf
              simp only at HE2 hct hcl hcf
              clear hcut
              have hpl : p.length ≤ 600 := by omega
              have hql : q.length ≤ 600 := by omega
              have hdt := w_dots p (by omega)
              have hj := (nrm_join p (by omega)).2
              obtain ⟨J, hJ⟩ : ∃ J, Lib.join (nrm [] (spl 47 p)) [47] = J := ⟨_, rfl⟩
              rw [hJ] at hdt hj HE2
              clear hJ hcl
              have hq0 : is = false → q = [] := fun h => by have := (hcf h).1; simp only [Prod.mk.injEq] at this; exact this.2.1
              clear hcf
              have hM1 := hM.keep hbw1
              cases is
              · simp only [Bool.false_eq_true, if_false, List.append_nil] at HE2
                obtain rfl := hq0 rfl
                clear hq0
                have hql0 : ∀ w, (Op.stringOp .add ⟨([47] ++ J).toArray⟩ ⟨([] : List UInt8).toArray⟩).run Tryd.prog w = .ok (.string ⟨([47] ++ J).toArray⟩) w := fun w => by have := run_cat (P := Tryd.prog) ([47] ++ J) [] (by simp; omega) (by simp) w; rwa [List.append_nil] at this
                go_wp2_with (first
                  | (go_at_call 60; refine (hct _).mono ?_; rintro e w2 ⟨rfl, hb2⟩)
                  | (go_at_call 71; refine (hdt _ (hM1.keep hb2)).mono ?_; rintro e w3 ⟨rfl, hb3⟩))
                go_ret2
                rw [HE2.out]
                refine ⟨rfl, ?_⟩
                have hbw2 := hbw1.trans (hb2.mono hbw1.size)
                exact hbw2.trans (hb3.mono hbw2.size)
              · simp only [if_true] at HE2
                clear hq0
                have c1 : ∀ w, (Op.stringOp .add ⟨#[63]⟩ ⟨q.toArray⟩).run Tryd.prog w = .ok (.string ⟨([63] ++ q).toArray⟩) w := fun w => run_cat [63] q (by simp) (by omega) w
                have c2 : ∀ w, (Op.stringOp .add ⟨([47] ++ J).toArray⟩ ⟨([63] ++ q).toArray⟩).run Tryd.prog w = .ok (.string ⟨(([47] ++ J) ++ ([63] ++ q)).toArray⟩) w := fun w => run_cat ([47] ++ J) ([63] ++ q) (by simp; omega) (by simp; omega) w
                go_wp2_with (first
                  | (go_at_call 60; refine (hct _).mono ?_; rintro e w2 ⟨rfl, hb2⟩)
                  | (go_at_call 71; refine (hdt _ (hM1.keep hb2)).mono ?_; rintro e w3 ⟨rfl, hb3⟩))
                go_ret2
                rw [HE2.out]
                refine ⟨rfl, ?_⟩
                have hbw2 := hbw1.trans (hb2.mono hbw1.size)
                exact hbw2.trans (hb3.mono hbw2.size)
      · rw [nrmE_bad hbig (by rw [hp47n r hx]; rfl)]
        have hxb : ((x.toNat : Int) == 47) = false := by
          have : ¬ (x.toNat : Int) = 47 := fun h => hx (UInt8.toNat_inj.1 (by show x.toNat = 47; omega))
          simpa using this
        have hl2 : r.length + 1 ≤ 200 := by simp only [List.length_cons] at hbig; omega
        go_enter Tryd.func29, Tryd.ntmps29
        go_wp2_with fail
        go_ret2
        exact ⟨rfl, Below.refl _ _⟩
end Go.Proofs.YtldlbfdfaigkcaaDoor
