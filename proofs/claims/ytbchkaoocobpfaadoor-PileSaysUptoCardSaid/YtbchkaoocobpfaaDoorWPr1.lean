/- Walks: the reference's piles: each text once, counted, named, got. -/
import Derived.Test.YtbchkaoocobpfaaDoorWPl1
import Derived.Test.YtbchkaoocobpfaaDoorWDgE
import Derived.Test.YtbchkaoocobpfaaDoorWDgY
import Derived.Test.YtbchkaoocobpfaaDoorWJoin
import Derived.Test.YtbchkaoocobpfaaDoorWChk
import Derived.Test.YtbchkaoocobpfaaDoorSpecs
namespace Go.Larder
theorem join_len : ∀ (l : List Txt), (Lib.join l []).length = sumT l
  | [] => rfl
  | x :: r => by
    rw [Lib.join_cons]
    have : (Lib.joinTail [] r).length = sumT r := by simp [Lib.joinTail, sumT, List.length_flatten]
    rw [List.length_append, this, sumT_cons]
theorem ck_ne : ∀ (l : List UInt8) (st : CkS), (∀ p ∈ st.2.1, p ≠ []) → ∀ p ∈ (ckAll st l).2.1, p ≠ []
  | [], st, h => h
  | b :: l, st, h => by
    have e : ckAll st (b :: l) = ckAll (ckStep st b) l := rfl
    rw [e]
    refine ck_ne l _ ?_
    cases hc : isCut (st.2.2.length + 1) (sumF st.1 b) with
    | true =>
      rw [ck_yes hc]
      intro p hp
      rcases List.mem_append.1 hp with hp | hp
      · exact h p hp
      · simp only [List.mem_singleton] at hp
        subst hp
        simp
    | false => rw [ck_no hc]; exact h
theorem cutC_ne {s : List UInt8} : ∀ p ∈ cutC s, p ≠ [] := by
  intro p hp
  unfold cutC at hp
  rcases List.mem_append.1 hp with hp | hp
  · exact ck_ne s (0, [], []) (by simp) p hp
  · unfold tailP at hp
    split at hp
    · simp at hp
    · rename_i h
      simp only [List.mem_singleton] at hp
      rw [hp]
      simpa using h
theorem has_mem (x : Txt) (l : List Txt) : (l.any fun y => x == y) = decide (x ∈ l) := by
  induction l with
  | nil => simp
  | cons y l ih =>
    rw [List.any_cons, ih]
    by_cases h : x = y <;> simp [h]
end Go.Larder
namespace Go.Proofs.YtbchkaoocobpfaaDoor
open Go.RowKit Go.Larder
set_option linter.unusedVariables false
set_option linter.unusedSimpArgs false
variable {w w' : World} {c room cap : Nat} {A : Option Addr} {all l : List Txt}
/-- the reference's pile -/
structure RfP (w : World) (c room : Nat) (A : Option Addr) (cap : Nat) (all : List Txt) : Prop where
  box : BoxAt w c 84 [.int .i64 (room : Int), .slice A all.length cap]
  own : OwnL encS w 0 9 A cap all
def FRp (c : Nat) (A : Option Addr) (j : Nat) : Prop := j = c ∨ blkOf A = some j
theorem RfP.apart (h : RfP w c room A cap all) : ∀ a, A = some a → a.block ≠ c := BoxAt.apart h.own h.box (by decide)
theorem RfP.but {B : Nat → Prop} (h : RfP w c room A cap all) (hs : SameBut B w w') (hd : ∀ j, FRp c A j → ¬ B j) : RfP w' c room A cap all :=
  ⟨hs.box h.box (hd c (.inl rfl)), hs.own h.own fun a ha => hd _ (.inr (by rw [ha]; rfl))⟩
theorem RfP.keep (h : RfP w c room A cap all) (hb : Below w.heap.size w w') : RfP w' c room A cap all := ⟨h.box.keep hb, h.own.below hb (Nat.le_refl _)⟩
theorem RfP.flt (h : RfP w c room A cap all) {j : Nat} (hj : FRp c A j) : j < w.heap.size := by
  rcases hj with rfl | hj
  · exact h.box.lt
  · cases A with
    | none => simp [blkOf] at hj
    | some a =>
      have h1 : a.block = j := by simpa [blkOf] using hj
      have := (h.own.lt a rfl).2
      omega
theorem sl_strQ : SlT Tryd.prog 22 9 1 16 := SlT.mk' (z := .string ByteArray.empty) Tryd.underlying22 (by kernel_rfl) rfl
theorem w_HasP (x : List UInt8) (l : List (List UInt8)) (hl : l.length ≤ 140737488351232) (A : Option Addr) (c B : Nat) (w : World) (hr : ReadL encS w B A l) :
    Calls Tryd.prog 61 #[.slice A l.length c, S x] w (fun e w' => e = .returned (.bool (decide (x ∈ l))) ∧ w = w') := by
  rw [← has_mem]
  go_enter Tryd.func61, Tryd.ntmps61
  go_wp2_with fail
  go_loop [9] (fun i' => ∃ k : Nat, i' = .int .i64 k ∧ k ≤ l.length ∧ ((l.drop k).any fun y => x == y) = (l.any fun y => x == y)) (fun i' => l.length - (intOf i').toNat)
  case atStart => exact ⟨0, rfl, by omega, rfl⟩
  case round =>
    obtain ⟨k, rfl, hk, heq⟩ := hrel
    by_cases hlt : k < l.length
    · obtain ⟨y, hy, hs⟩ := drop_step hlt
      obtain ⟨g, off, rfl, hgb, hc0⟩ := hr.at_S hy
      rw [hs, List.any_cons] at heq
      clear hs hy
      cases hw : (x == y)
      · rw [hw] at heq
        have Heq := Lib.hid heq; clear heq
        go_wp2_with fail
        go_round
        case rel => exact ⟨k + 1, by go_num, by omega, by rw [← Heq.out]; simp⟩
        case measure => simp [intOf]; omega
      · rw [hw] at heq
        have Heq := Lib.hid heq; clear heq
        go_wp2_with fail
        go_ret
        exact ⟨by rw [← Heq.out]; rfl, rfl⟩
    · rw [drop_end hlt] at heq
      have Heq := Lib.hid heq; clear heq
      go_wp2_with fail
      go_ret
      exact ⟨by rw [← Heq.out]; rfl, rfl⟩
theorem w_CopyP (l : List (List UInt8)) (hl : l.length ≤ 3000000) (A : Option Addr) (c : Nat) (w : World) (hr : ReadL encS w w.heap.size A l) :
    Calls Tryd.prog 41 #[.slice A l.length c] w fun e w' => (∃ A2 c2, e = .returned (.slice A2 l.length c2) ∧ OwnL encS w' w.heap.size 9 A2 c2 l) ∧ Below w.heap.size w w' := by
  have hn : OwnL encS w w.heap.size 9 none 0 ([] : List (List UInt8)) := OwnL.nil _ _ _
  go_enter Tryd.func41, Tryd.ntmps41
  go_wp2_with (at_builtin
               refine wpList_app_any encS sl_strQ l rfl _ _ rfl rfl hn rfl hr (by simp; omega) (by simp only [maxLen, List.length_nil]; omega) (Nat.le_refl _) ?_
               intro A2 c2 w3 hown3 hb3)
  go_ret
  exact ⟨⟨A2, c2, by simp, by simpa using hown3⟩, hb3⟩
set_option maxHeartbeats 4000000 in
theorem w_distinct (l : List Txt) (hl : l.length ≤ 3000000) (A : Option Addr) (c : Nat) (w : World) (hr : ReadL encS w w.heap.size A l) :
    Calls Tryd.prog 43 #[.slice A l.length c] w fun e w' => (∃ A2 c2, e = .returned (.slice A2 (distT l).length c2) ∧ OwnL encS w' w.heap.size 9 A2 c2 (distT l)) ∧ Below w.heap.size w w' := by
  go_enter Tryd.func43, Tryd.ntmps43
  go_wp2_with fail
  go_loopw [3, 8] (fun o' i' wr => ∃ (i : Nat) (out : List Txt) (A2 : Option Addr) (c2 : Nat), i' = .int .i64 i ∧ o' = .slice A2 out.length c2 ∧ i ≤ l.length ∧ out.length ≤ i ∧ Hid (out = distT (l.take i)) ∧ OwnL encS wr w.heap.size 9 A2 c2 out ∧ Below w.heap.size w wr) (fun _ i' _ => l.length - (intOf i').toNat)
  case atStart => exact ⟨0, [], none, 0, rfl, rfl, by omega, by simp, Lib.hid rfl, OwnL.nil _ _ _, Below.refl _ _⟩
  case round =>
    obtain ⟨i, out, A2, c2, rfl, rfl, hi, hol, heq, hown, hbel⟩ := hrel
    obtain ⟨wo, hwo⟩ : ∃ wo, wo = wr := ⟨_, rfl⟩
    subst hwo
    by_cases hlt : i < l.length
    · obtain ⟨t, ht, hd⟩ := drop_step hlt
      obtain ⟨g0, off0, rfl, hgb0, hc0⟩ := (hr.below hbel (Nat.le_refl _)).at_S ht
      have hst : distT (l.take (i + 1)) = addD out t := by rw [List.take_add_one, ht, Option.toList_some, distT_snoc, heq.out]
      have hhas := w_HasP t out (by omega) A2 c2 _ wo hown.read
      have hbs := hbel.size
      by_cases hin : t ∈ out
      · have Hst := Lib.hid (show out = distT (l.take (i + 1)) from by rw [hst, addD, if_pos hin])
        rw [decide_eq_true hin] at hhas
        clear ht hd hst hin
        go_wp2_with (go_at_call 61; refine hhas.mono ?_; rintro e w1 ⟨rfl, rfl⟩)
        go_roundw
        case rel => exact ⟨i + 1, out, A2, c2, by go_num, rfl, by omega, by omega, Hst, hown, hbel⟩
        case measure => simp [intOf]; omega
      · have Hst := Lib.hid (show out ++ [t] = distT (l.take (i + 1)) from by rw [hst, addD, if_neg hin])
        rw [decide_eq_false hin] at hhas
        clear ht hd hst hin
        go_wp2_with (first
          | (go_at_call 61; refine hhas.mono ?_; rintro e w1 ⟨rfl, rfl⟩)
          | (at_builtin; refine wpList_app encS sl_strQ [t] rfl _ _ rfl rfl hown #[S t] rfl 0 rfl rfl (by omega) (by simp only [maxLen]; omega) hbs ?_; intro g' c' w2 hown2 hg2 hb2 hbg2))
        go_roundw
        case rel => exact ⟨i + 1, out ++ [t], some ⟨g', 0, none⟩, c', by go_num, by simp, by omega, by simp; omega, Hst, hown2, hbel.trans hb2⟩
        case measure => simp [intOf]; omega
    · have Hall := Lib.hid (show out = distT l from by rw [heq.out, List.take_of_length_le (by omega)])
      go_wp2_with fail
      go_ret
      exact ⟨⟨A2, c2, by rw [← Hall.out]; rfl, by rw [← Hall.out]; exact hown⟩, hbel⟩
theorem w_RpMany (hl : all.length ≤ 3000000) (h : RfP w c room A cap all) : Calls Tryd.prog 26 #[pgP c] w fun e w' => e = .returned (.int .i64 (manyT all : Int)) ∧ Below w.heap.size w w' := by
  have c1 := h.box.cell (j := 1) rfl
  have hd := w_distinct all hl A cap w h.own.read
  obtain ⟨D, hD⟩ : ∃ D, distT all = D := ⟨_, rfl⟩
  have hm : manyT all = D.length := by rw [← hD]; rfl
  rw [hD] at hd
  rw [hm]
  clear hD hm
  go_enter Tryd.func26, Tryd.ntmps26
  go_wp2_with (go_at_call 43; refine hd.mono ?_; rintro e w1 ⟨⟨A2, c2, rfl, hown⟩, hb⟩)
  go_ret
  exact ⟨rfl, hb⟩
theorem w_RpUsed (hl : all.length ≤ 3000000) (hs : sumT all ≤ 100000000) (h : RfP w c room A cap all) : Calls Tryd.prog 24 #[pgP c] w fun e w' => e = .returned (.int .i64 (usedT all : Int)) ∧ Below w.heap.size w w' := by
  have c1 := h.box.cell (j := 1) rfl
  have hd := w_distinct all hl A cap w h.own.read
  have hdl := dist_len_le all
  have hds := dist_sum_le all
  obtain ⟨D, hD⟩ : ∃ D, distT all = D := ⟨_, rfl⟩
  have hm : usedT all = sumT D := by rw [← hD]; rfl
  rw [hD] at hd hdl hds
  rw [hm]
  have hjl := join_len D
  have hj := fun (W : World) (B : Nat) (A2 : Option Addr) (c2 : Nat) (h1 : OwnL encS W B 9 A2 c2 D) => w_Join D [] A2 c2 _ W h1.read (Nat.le_refl _) h1.le_cap (by omega) (by rw [hjl]; omega)
  obtain ⟨J, hJ⟩ : ∃ J, Lib.join D [] = J := ⟨_, rfl⟩
  rw [hJ] at hj hjl
  rw [← hjl]
  clear hD hm hJ hjl
  go_enter Tryd.func24, Tryd.ntmps24
  go_wp2_with (first
    | (go_at_call 43; refine hd.mono ?_; rintro e w1 ⟨⟨A2, c2, rfl, hown⟩, hb⟩; have hj1 := hj _ _ _ _ hown)
    | (go_at_call 45; refine hj1.mono ?_; rintro e w2 ⟨rfl, hb2⟩))
  go_ret
  exact ⟨rfl, hb.trans (hb2.mono hb.size)⟩
end Go.Proofs.YtbchkaoocobpfaaDoor
