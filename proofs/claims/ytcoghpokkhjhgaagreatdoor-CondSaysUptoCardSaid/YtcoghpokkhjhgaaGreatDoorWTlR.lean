/- Walk: a list of entity tags: the reference's. -/
import Derived.Test.YtcoghpokkhjhgaaGreatDoorWTl
import Derived.Test.YtcoghpokkhjhgaaGreatDoorWTagP
import Derived.Test.YtcoghpokkhjhgaaGreatDoorWFc0
import Derived.Deep.RegionWith
namespace Go.Proofs.YtcoghpokkhjhgaaGreatDoor
open Go.RowKit Go.Larder
set_option linter.unusedVariables false
set_option linter.unusedSimpArgs false


theorem splitQ_len : ∀ (q : Bool) (s p : List UInt8), p ∈ splitQ q s → p.length ≤ s.length
  | q, [], p, h => by simp [splitQ] at h; subst h; simp
  | q, c :: l, p, h => by
    cases hc : (c == 44 && !q)
    · rw [splitQ_step _ _ _ hc] at h
      obtain ⟨p0, ps, hs⟩ := splitQ_some (if (c == 34) = true then !q else q) l
      rw [hs] at h
      rcases List.mem_cons.1 h with rfl | h
      · have := splitQ_len _ l p0 (by rw [hs]; simp)
        simp; omega
      · have := splitQ_len _ l p (by rw [hs]; simp [h])
        simp; omega
    · have h2 : splitQ q (c :: l) = [] :: splitQ q l := by
        conv => lhs; unfold splitQ
        rw [if_pos hc]
      rw [h2] at h
      rcases List.mem_cons.1 h with rfl | h
      · simp
      · have := splitQ_len q l p h
        simp; omega
theorem splitQ_many : ∀ (q : Bool) (s : List UInt8), (splitQ q s).length ≤ s.length + 1
  | q, [] => by simp [splitQ]
  | q, c :: l => by
    cases hc : (c == 44 && !q)
    · rw [splitQ_step _ _ _ hc]
      have := splitQ_many (if (c == 34) = true then !q else q) l
      obtain ⟨p0, ps, hs⟩ := splitQ_some (if (c == 34) = true then !q else q) l
      rw [hs] at this ⊢
      simp [preH] at this ⊢; omega
    · have h2 : splitQ q (c :: l) = [] :: splitQ q l := by
        conv => lhs; unfold splitQ
        rw [if_pos hc]
      rw [h2]
      have := splitQ_many q l
      simp; omega
theorem pq_comma {acc : List (List UInt8)} {cur l : List UInt8} : acc ++ preH cur (splitQ false (44 :: l)) = (acc ++ [cur]) ++ preH [] (splitQ false l) := by
  rw [splitQ_comma, preH_nil (splitQ_ne _ _)]
  simp [preH]
theorem pq_step {acc : List (List UInt8)} {cur l : List UInt8} {q : Bool} {c : UInt8} (h : (c == 44 && !q) = false) : acc ++ preH cur (splitQ q (c :: l)) = acc ++ preH (cur ++ [c]) (splitQ (if (c == 34) = true then !q else q) l) := by
  rw [splitQ_step _ _ _ h, preH_preH]
theorem u8_eqn (x : UInt8) (n : UInt8) : (x == n) = ((x.toNat : Int) == (n.toNat : Int)) := by
  rw [Bool.eq_iff_iff]
  simp
  constructor
  · rintro rfl; rfl
  · intro h; exact UInt8.toNat_inj.1 (by omega)

theorem sl_str5 : SlT Tryz.prog 50 9 1 16 := SlT.mk' (z := .string ByteArray.empty) Tryz.underlying50 (by kernel_rfl) rfl
theorem trim_lenL (l : List UInt8) : (trim l).length ≤ l.length := Nat.le_trans (trimR_len _) (dropWhile_len l)
set_option maxHeartbeats 8000000 in
set_option maxRecDepth 100000 in
theorem w_TagListR (s : List UInt8) (hs : s.length ≤ 140737488351232) (w : World) :
    Calls Tryz.prog 36 #[S s] w (TlPost w (tlE s)) := by
  unfold tlE
  by_cases hbig : 1000 < s.length
  · rw [if_pos hbig]
    go_enter Tryz.func36, Tryz.ntmps36
    go_wp2_with fail
    go_ret3
    exact tlPost_none (Below.refl _ _)
  · rw [if_neg hbig]
    cases hst : (s == [42])
    · have hst1 : ¬ s = [42] := by simpa using hst
      rw [if_neg hst1, tl_eq _ _ _ (Nat.lt_succ_self _)]
      obtain ⟨R, hR⟩ : ∃ R, tagsOf (splitQ false s) [] = R := ⟨_, rfl⟩
      rw [hR]
      have HR := Lib.hid hR
      clear hR hst1
      go_enter Tryz.func36, Tryz.ntmps36
      go_wp2_with fail
      clear hst
      go_loopw [5, 6, 22] (fun o q' i' wr => ∃ (k : Nat) (q : Bool) (acc : List (List UInt8)) (cur : List UInt8) (g c : Nat), i' = .int .i64 k ∧ q' = .bool q ∧ o = .slice (some ⟨g, 0, none⟩) (acc.length + 1) c ∧
          k ≤ s.length ∧ acc.length ≤ k ∧ OwnL encS wr w.heap.size 9 (some ⟨g, 0, none⟩) c (acc ++ [cur]) ∧ Below w.heap.size w wr ∧ cur.length ≤ k ∧ Hid (acc ++ preH cur (splitQ q (s.drop k)) = splitQ false s))
        (fun _ _ i' _ => s.length - (intOf i').toNat)
      case atStart => exact ⟨0, false, [], [], w.heap.size, 1, rfl, rfl, rfl, by omega, by simp, own_lit _ _ _ _ _ rfl (by omega) (by simp [maxLen]), (Below.refl _ _).alloc (Nat.le_refl _) _, by simp, Lib.hid (preH_nil (splitQ_ne _ _))⟩
      case round =>
        obtain ⟨k, q, acc, cur, g, c, rfl, rfl, rfl, hk, hak, hown, hbel, hcl, Heq⟩ := hrel
        have hbs := hbel.size
        by_cases hlt : k < s.length
        · obtain ⟨x, hx, hs2⟩ := drop_step hlt
          have ht1 : List.take 1 (List.drop k s) = [x] := by rw [hs2]; rfl
          have ht2 : List.take (k + 1 - k) (List.drop k s) = [x] := by rw [show k + 1 - k = 1 from by omega]; exact ht1
          have Hs := Lib.hid hs2; clear hs2 hx
          have hcell := hown.get_S (get_last acc cur)
          have hfz := hown.frozen acc.length
          have h44 := u8_eqn x 44
          have h34 := u8_eqn x 34
          cases hsg : ((x.toNat : Int) == 44)
          · have hsg' : ([x] == [(44 : UInt8)]) = false := by rw [sing_q]; exact hsg
            have hx44 : (x == 44) = false := by rw [h44]; exact hsg
            cases hq : ((x.toNat : Int) == 34)
            · have hq' : ([x] == [(34 : UInt8)]) = false := by rw [sing_q]; exact hq
              have hx34 : (x == 34) = false := by rw [h34]; exact hq
              have Heq2 := Lib.hid (show acc ++ preH (cur ++ [x]) (splitQ q (s.drop (k + 1))) = splitQ false s from by rw [← Heq.out, Hs.out, pq_step (by rw [hx44]; rfl), hx34]; rfl)
              clear h44 h34 hx44 hx34 hsg hq
              go_wp2_with fail
              go_roundw
              case rel => exact ⟨k + 1, q, acc, cur ++ [x], g, c, by go_num, rfl, by simp, by omega, by omega, by have := hown.set_S acc.length (cur ++ [x]); rw [set_last] at this; exact this, hbel.setCell (by exact (hown.lt _ rfl).1) _, by simp; omega, Heq2⟩
              case measure => simp [intOf]; omega
            · have hq' : ([x] == [(34 : UInt8)]) = true := by rw [sing_q]; exact hq
              have hx34 : (x == 34) = true := by rw [h34]; exact hq
              have Heq2 := Lib.hid (show acc ++ preH (cur ++ [x]) (splitQ (!q) (s.drop (k + 1))) = splitQ false s from by rw [← Heq.out, Hs.out, pq_step (by rw [hx44]; rfl), hx34]; rfl)
              clear h44 h34 hx44 hx34 hsg hq
              go_wp2_with fail
              go_roundw
              case rel => exact ⟨k + 1, !q, acc, cur ++ [x], g, c, by go_num, rfl, by simp, by omega, by omega, by have := hown.set_S acc.length (cur ++ [x]); rw [set_last] at this; exact this, hbel.setCell (by exact (hown.lt _ rfl).1) _, by simp; omega, Heq2⟩
              case measure => simp [intOf]; omega
          · have hsg' : ([x] == [(44 : UInt8)]) = true := by rw [sing_q]; exact hsg
            have hx44 : x = 44 := by have : (x == 44) = true := by rw [h44]; exact hsg
                                     simpa using this
            have hq' : ([x] == [(34 : UInt8)]) = false := by rw [hx44]; rfl
            cases q
            · have Heq2 := Lib.hid (show (acc ++ [cur]) ++ preH [] (splitQ false (s.drop (k + 1))) = splitQ false s from by rw [← Heq.out, Hs.out, hx44, pq_comma])
              clear h44 h34 hx44 hsg
              go_wp2_with (at_builtin; refine wpList_app encS sl_str5 [([] : List UInt8)] rfl _ _ rfl (by show Value.slice (some ⟨g, 0, none⟩) (acc.length + 1) c = _; simp) hown #[S []] rfl 0 rfl rfl (by simp; omega) (by simp only [maxLen]; simp; omega) hbel.size ?_; intro g' c' w1 hown1 hg1 hb1 hbg)
              go_roundw
              case rel => exact ⟨k + 1, false, acc ++ [cur], [], g', c', by go_num, rfl, by simp, by omega, by simp; omega, hown1, hbel.trans hb1, by simp, Heq2⟩
              case measure => simp [intOf]; omega
            · have Heq2 := Lib.hid (show acc ++ preH (cur ++ [x]) (splitQ true (s.drop (k + 1))) = splitQ false s from by rw [← Heq.out, Hs.out, pq_step (by simp), hx44]; rfl)
              clear h44 h34 hx44 hsg
              go_wp2_with fail
              go_roundw
              case rel => exact ⟨k + 1, true, acc, cur ++ [x], g, c, by go_num, rfl, by simp, by omega, by omega, by have := hown.set_S acc.length (cur ++ [x]); rw [set_last] at this; exact this, hbel.setCell (by exact (hown.lt _ rfl).1) _, by simp; omega, Heq2⟩
              case measure => simp [intOf]; omega
        · have hL : acc ++ [cur] = splitQ false s := by
            have := Heq.out
            rw [drop_end hlt] at this
            rw [← this]
            cases q <;> simp [splitQ, preH]
          have hLs := fun p (hp : p ∈ acc ++ [cur]) => splitQ_len false s p (by rw [← hL]; exact hp)
          have hLR : tagsOf ((acc ++ [cur]).drop 0) [] = R := by rw [List.drop_zero, hL]; exact HR.out
          have hLl : (acc ++ [cur]).length = acc.length + 1 := by simp
          generalize acc ++ [cur] = L at hown hLs hLR hLl
          have hL1 : L.length ≤ acc.length + 1 := by omega
          have hL2 : acc.length + 1 ≤ L.length := by omega
          have HLR := Lib.hid hLR
          have Hown := Lib.hid hown.read
          clear hL hLR hLl hown Heq
          go_wp2_with fail
          go_loopw [9, 55] (fun o i' wq => ∃ (j : Nat) (out : List Tg) (A : Option Addr) (c : Nat), i' = .int .i64 j ∧ o = .slice A out.length c ∧ j ≤ L.length ∧ out.length ≤ j ∧ OwnL encT wq wr.heap.size 34 A c out ∧ Below wr.heap.size wr wq ∧ Hid (tagsOf (L.drop j) out = R)) (fun _ i' _ => L.length - (intOf i').toNat)
          case atStart => exact ⟨0, [], none, 0, rfl, rfl, by omega, by simp, OwnL.nil _ _ _, Below.refl _ _, HLR⟩
          case round =>
            obtain ⟨j, out, A, c2, rfl, rfl, hj, hoj, hown, hbq, heq⟩ := hrel
            have hqs := hbq.size
            have hbel2 := hbel.trans (hbq.mono hbs)
            by_cases hlt2 : j < L.length
            · obtain ⟨p, hp, hs2⟩ := drop_step hlt2
              have hpl := hLs p (List.mem_of_getElem? hp)
              obtain ⟨b, off, hA, hb, hcell⟩ := (Hown.out.below hbq (Nat.le_refl _)).at_S hp
              injection hA with hA
              injection hA with hA1 hA2
              subst hA1 hA2
              rw [Nat.zero_add] at hcell
              have heq2 := heq.out
              rw [hs2] at heq2
              unfold tagsOf at heq2
              clear heq hs2 hp
              have htr := fun w => fc_TrimR p.length p w (Nat.le_refl _) (by omega)
              have htl := trim_lenL p
              generalize trim p = tp at htr heq2 htl
              cases hem : tp.isEmpty
              · rw [hem, if_neg (by simp)] at heq2
                have htp := fun w => w_tparseR tp (by omega) w
                cases hpt : parseTR tp with
                | none =>
                  rw [hpt] at heq2
                  simp only [hpt] at htp
                  have Hq := Lib.hid heq2.symm
                  clear heq2 hpt
                  go_wp2_with (first
                    | (go_at_call 64; refine (htr _).mono ?_; rintro e w1 ⟨rfl, hb1⟩)
                    | (go_at_call 37; refine (htp _).mono ?_; rintro e w2 ⟨rfl, hb2⟩))
                  go_ret3
                  have hB2 := (hbel2.trans (hb1.mono hbel2.size)).trans (hb2.mono (Nat.le_trans hbel2.size hb1.size))
                  exact tlPost_bad (by rw [Hq.out]; rfl) (hB2.alloc hB2.size _)
                | some x =>
                  obtain ⟨wk, t⟩ := x
                  rw [hpt] at heq2
                  simp only [hpt] at htp
                  have Hq := Lib.hid heq2
                  clear heq2 hpt
                  go_wp2_with (first
                    | (go_at_call 64; refine (htr _).mono ?_; rintro e w1 ⟨rfl, hb1⟩)
                    | (go_at_call 37; refine (htp _).mono ?_; rintro e w2 ⟨rfl, hb2⟩
                       have hQ2 := (hbq.trans (hb1.mono hqs)).trans (hb2.mono (Nat.le_trans hqs hb1.size))
                       have hown2 := (((hown.below hb1 (Nat.le_refl _)).below hb2 (Nat.le_refl _)).alloc (.cells #[.bool wk, S t] 34))
                       have hQ3 := hQ2.alloc hQ2.size (.cells #[.bool wk, S t] 34))
                    | (at_builtin; refine wpList_app encT sl_T [(wk, t)] rfl _ _ rfl rfl hown2 #[.bool wk, S t] rfl 0 rfl (by first | rfl | (simp [go_sem]; done)) (by omega) (by simp only [maxLen]; omega) hQ3.size ?_; intro g5 c'' w5 hown5 hg5 hb5 hbg))
                  go_roundw
                  case rel => exact ⟨j + 1, out ++ [(wk, t)], _, _, by go_num, by simp, by omega, by simp; omega, hown5, hQ3.trans hb5, Hq⟩
                  case measure => simp [intOf]; omega
              · rw [hem, if_pos rfl] at heq2
                have Hq := Lib.hid heq2
                clear heq2
                go_wp2_with (go_at_call 64; refine (htr _).mono ?_; rintro e w1 ⟨rfl, hb1⟩)
                go_roundw
                case rel => exact ⟨j + 1, out, A, c2, by go_num, rfl, by omega, by omega, hown.below hb1 (Nat.le_refl _), hbq.trans (hb1.mono hqs), Hq⟩
                case measure => simp [intOf]; omega
            · have heq2 := heq.out
              rw [drop_end hlt2] at heq2
              have Hq : Hid (R = some out) := Lib.hid heq2.symm
              clear heq2 heq
              have hown9 := hown.base_le hbs
              rcases Nat.eq_zero_or_pos out.length with hz | hz
              · have hz2 : out = [] := List.length_eq_zero_iff.1 hz
                subst hz2
                have Hz := Lib.hid hz
                clear hz
                go_wp2_with fail
                go_ret3
                exact tlPost_bad (by rw [Hq.out]; rfl) hbel2
              · by_cases h20 : 20 < out.length
                · have hz3 : ((out.length : Int) == 0) = false := by rw [beq_eq_false_iff_ne]; omega
                  go_wp2_with fail
                  go_ret3
                  exact tlPost_many (tlR_many Hq.out h20) hbel2
                · have hz3 : ((out.length : Int) == 0) = false := by rw [beq_eq_false_iff_ne]; omega
                  go_wp2_with fail
                  go_ret3
                  exact tlPost_ok (tlR_ok Hq.out (by omega) h20) hown9 hbel2
    · have hst1 : s = [42] := by simpa using hst
      rw [if_pos hst1]
      subst hst1
      go_enter Tryz.func36, Tryz.ntmps36
      go_wp2_with fail
      go_ret3
      exact tlPost_none (Below.refl _ _)
end Go.Proofs.YtcoghpokkhjhgaaGreatDoor
