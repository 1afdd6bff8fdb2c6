/- Walks: the reference's piles: a text by its name, got; made. -/
import Derived.Test.YtbchkaoocobpfaaDoorWPr1
import Derived.Test.YtbchkaoocobpfaaDoorWPl2
namespace Go.Larder
theorem lookT_cons {nm : Txt → Txt} {t : Txt} {r : List Txt} {n : Txt} : lookT nm (t :: r) n = if nm t = n then some t else lookT nm r n := by
  by_cases h : nm t = n <;> simp [lookT, h]
end Go.Larder
namespace Go.Proofs.YtbchkaoocobpfaaDoor
open Go.RowKit Go.Larder
set_option linter.unusedVariables false
set_option linter.unusedSimpArgs false
variable {w w' : World} {c room cap : Nat} {A : Option Addr} {all l : List Txt}
/-- the name of a text, by the reference -/
theorem w_nmR (t : Txt) (ht : t.length ≤ 5000) (W : World) (hA : AS W) : Calls Tryd.prog 9 #[S t] W (fun e w' => e = .returned (S (digL t)) ∧ Below W.heap.size W w') ∧ ∀ W', Calls Tryd.prog 12 #[S (digL t)] W' fun e w' => e = .returned (S (nmT t)) ∧ Below W'.heap.size W' w' :=
  ⟨w_DigestR t (by omega) W hA, fun W' => w_DHexR (digL t) (by rw [digL_len]; omega) W'⟩
set_option maxHeartbeats 4000000 in
set_option maxRecDepth 100000 in
theorem w_named (n : Txt) (hl : all.length ≤ 3000000) (h5 : ∀ t ∈ all, t.length ≤ 5000) (hA : AS w) (h : RfP w c room A cap all) :
    Calls Tryd.prog 44 #[pgP c, S n] w fun e w' => e = .returned (.tuple #[S ((lookT nmT (distT all) n).getD []), .bool (lookT nmT (distT all) n).isSome]) ∧ Below w.heap.size w w' := by
  have c1 := h.box.cell (j := 1) rfl
  have hd := w_distinct all hl A cap w h.own.read
  have hdl := dist_len_le all
  have hD5 : ∀ t ∈ distT all, t.length ≤ 5000 := fun t ht => h5 t (mem_distT.1 ht)
  obtain ⟨D, hD⟩ : ∃ D, distT all = D := ⟨_, rfl⟩
  rw [hD] at hd hdl hD5 ⊢
  obtain ⟨G, hG⟩ : ∃ G, lookT nmT D n = G := ⟨_, rfl⟩
  rw [hG]
  have HG := Lib.hid hG
  clear hD hG
  go_enter Tryd.func44, Tryd.ntmps44
  go_wp2_with (go_at_call 43; refine hd.mono ?_; rintro e w1 ⟨⟨A2, c2, rfl, hown⟩, hb⟩)
  have hA1 := hA.keep hb
  go_loopw [14] (fun i' wr => ∃ (i : Nat), i' = .int .i64 i ∧ i ≤ D.length ∧ Hid (lookT nmT D n = lookT nmT (D.drop i) n) ∧ Below w1.heap.size w1 wr) (fun i' _ => D.length - (intOf i').toNat)
  case atStart => exact ⟨0, rfl, by omega, Lib.hid (by rw [List.drop_zero]), Below.refl _ _⟩
  case round =>
    obtain ⟨i, rfl, hi, heq, hbel⟩ := hrel
    obtain ⟨wo, hwo⟩ : ∃ wo, wo = wr := ⟨_, rfl⟩
    subst hwo
    have hBw := hb.trans (hbel.mono hb.size)
    by_cases hlt : i < D.length
    · obtain ⟨t, ht, hd2⟩ := drop_step hlt
      obtain ⟨g0, off0, rfl, hgb0, hc0⟩ := (hown.read.below hbel (Nat.le_refl _)).at_S ht
      obtain ⟨hn1, hn2⟩ := w_nmR t (hD5 t (List.mem_of_getElem? ht)) wo (hA1.keep hbel)
      have hst : lookT nmT D n = if nmT t = n then some t else lookT nmT (D.drop (i + 1)) n := by rw [heq.out, hd2, lookT_cons]
      obtain ⟨nt, hnt⟩ : ∃ nt, nmT t = nt := ⟨_, rfl⟩
      rw [hnt] at hst hn2
      clear ht hd2 hnt hD5
      by_cases hnn : nt = n
      · subst hnn
        have hE : (nt == nt) = true := by simp
        have Hst := Lib.hid (show some t = G from by rw [← HG.out, hst, if_pos rfl])
        clear hst
        go_wp2_with (first
          | (go_at_call 9; refine hn1.mono ?_; rintro e w2 ⟨rfl, hb2⟩)
          | (go_at_call 12; refine (hn2 _).mono ?_; rintro e w3 ⟨rfl, hb3⟩))
        go_ret2
        exact ⟨by rw [← Hst.out]; rfl, hBw.trans ((hb2.trans (hb3.mono hb2.size)).mono hBw.size)⟩
      · have hE : (nt == n) = false := by simpa using hnn
        have Hst := Lib.hid (show lookT nmT D n = lookT nmT (D.drop (i + 1)) n from by rw [hst, if_neg hnn])
        clear hst hnn
        go_wp2_with (first
          | (go_at_call 9; refine hn1.mono ?_; rintro e w2 ⟨rfl, hb2⟩)
          | (go_at_call 12; refine (hn2 _).mono ?_; rintro e w3 ⟨rfl, hb3⟩))
        go_roundw
        case rel => exact ⟨i + 1, by go_num, by omega, Hst, hbel.trans ((hb2.trans (hb3.mono hb2.size)).mono hbel.size)⟩
        case measure => simp [intOf]; omega
    · have Hall := Lib.hid (show none = G from by rw [← HG.out, heq.out, List.drop_of_length_le (by omega)]; rfl)
      go_wp2_with fail
      go_ret2
      exact ⟨by rw [← Hall.out]; rfl, hBw⟩
set_option maxHeartbeats 4000000 in
set_option maxRecDepth 100000 in
theorem w_RpGet (hll : l.length ≤ 1048576) (Al : Option Addr) (cl : Nat) (hr : ReadL encS w w.heap.size Al l) (hl : all.length ≤ 3000000) (h5 : ∀ t ∈ all, t.length ≤ 5000) (hA : AS w) (h : RfP w c room A cap all) :
    Calls Tryd.prog 22 #[pgP c, .slice Al l.length cl] w fun e w' => e = .returned (.tuple #[S (getE (lookT nmT (distT all)) l).1, .int .i64 (getE (lookT nmT (distT all)) l).2]) ∧ Below w.heap.size w w' := by
  have hnm := fun (W : World) (hW : Below w.heap.size w W) (n : Txt) => w_named n hl h5 (hA.keep hW) (h.keep hW)
  have hlen : ∀ n t, lookT nmT (distT all) n = some t → t.length ≤ 5000 := fun n t ht => h5 t (mem_distT.1 (lookT_some ht).1)
  obtain ⟨look, hlook⟩ : ∃ look, lookT nmT (distT all) = look := ⟨_, rfl⟩
  rw [hlook] at hnm hlen ⊢
  obtain ⟨G, hG⟩ : ∃ G, getE look l = G := ⟨_, rfl⟩
  rw [hG]
  have HG := Lib.hid hG
  have Hlen := Lib.hid hlen
  clear hG hlook hlen
  go_enter Tryd.func22, Tryd.ntmps22
  go_wp2_with fail
  go_loopw [6, 7, 14] (fun b' m' i' wr => ∃ (i m : Nat) (ts : List Txt) (bs : Txt), i' = .int .i64 i ∧ m' = .int .i64 m ∧ b' = S bs ∧ i ≤ l.length ∧ m ≤ 5000 * i ∧ bs.length ≤ 5000 ∧ Hid (getT look (l.take i) = some ts ∧ m = sumT ts ∧ (m ≤ 5000 → bs = ts.flatten)) ∧ Below w.heap.size w wr) (fun _ _ i' _ => l.length - (intOf i').toNat)
  case atStart => exact ⟨0, 0, [], [], rfl, rfl, rfl, by omega, by omega, by simp, Lib.hid ⟨rfl, rfl, fun _ => rfl⟩, Below.refl _ _⟩
  case round =>
    obtain ⟨i, m, ts, bs, rfl, rfl, rfl, hi2, hm, hbs, hh, hbel⟩ := hrel
    obtain ⟨wo, hwo⟩ : ∃ wo, wo = wr := ⟨_, rfl⟩
    subst hwo
    by_cases hlt : i < l.length
    · obtain ⟨n, hn, hd⟩ := drop_step hlt
      obtain ⟨g0, off0, hA0, hgb0, hc0⟩ := (hr.below hbel (Nat.le_refl _)).at_S hn
      have htk : l.take (i + 1) = l.take i ++ [n] := by rw [List.take_add_one, hn]; rfl
      have hmem := List.mem_of_getElem? hn
      have hnm1 := hnm wo hbel n
      cases hso : look n with
      | none =>
        rw [hso] at hnm1
        simp only [Option.getD_none, Option.isSome_none] at hnm1
        have Hg := Lib.hid (show ([], 4) = G from by rw [← HG.out, getE, getT_none hmem hso])
        subst hA0
        clear hn hd htk hmem hso hnm
        go_wp2_with (go_at_call 44; refine hnm1.mono ?_; rintro e w2 ⟨rfl, hb2⟩)
        go_ret2
        have h1 := congrArg Prod.fst Hg.out
        have h2 := congrArg Prod.snd Hg.out
        simp only at h1 h2
        exact ⟨by rw [← h1, ← h2]; rfl, hbel.trans (hb2.mono hbel.size)⟩
      | some t =>
        rw [hso] at hnm1
        simp only [Option.getD_some, Option.isSome_some] at hnm1
        have ht5 := Hlen.out n t hso
        have Hn := Lib.hid (show getT look (l.take (i + 1)) = some (ts ++ [t]) from by rw [htk, getT_snoc, hh.out.1, hso]; rfl)
        have hsum : m + t.length = sumT (ts ++ [t]) := by rw [hh.out.2.1, sumT_append]; simp [sumT]
        have Hsum := Lib.hid hsum
        have hm2 : m + t.length ≤ 5000 * (i + 1) := by omega
        subst hA0
        clear hn hd htk hmem hso hnm hsum
        by_cases hfit : m + t.length ≤ 5000
        · have hfitI : (m : Int) + (t.length : Int) ≤ 5000 := by omega
          have Hbs := Lib.hid (show bs ++ t = (ts ++ [t]).flatten from by rw [hh.out.2.2 (by omega)]; simp)
          have hbl2 : bs.length + t.length ≤ 5000 := by
            have h1 := congrArg List.length (hh.out.2.2 (by omega))
            have h2 : ts.flatten.length = sumT ts := by simp [sumT, List.length_flatten]
            have h3 := hh.out.2.1
            omega
          have a1 : ∀ W, (Op.stringOp .add ⟨bs.toArray⟩ ⟨t.toArray⟩).run Tryd.prog W = .ok (.string ⟨(bs ++ t).toArray⟩) W := fun W => run_cat (P := Tryd.prog) bs t (by omega) (by omega) W
          go_wp2_with (go_at_call 44; refine hnm1.mono ?_; rintro e w2 ⟨rfl, hb2⟩)
          go_roundw
          case rel => exact ⟨i + 1, m + t.length, ts ++ [t], bs ++ t, by go_num, by go_num, rfl, by omega, hm2, by rw [List.length_append]; exact hbl2, Lib.hid ⟨Hn.out, Hsum.out, fun _ => Hbs.out⟩, hbel.trans (hb2.mono hbel.size)⟩
          case measure => simp [intOf]; omega
        · have hfitI : ¬ (m : Int) + (t.length : Int) ≤ 5000 := by omega
          go_wp2_with (go_at_call 44; refine hnm1.mono ?_; rintro e w2 ⟨rfl, hb2⟩)
          go_roundw
          case rel => exact ⟨i + 1, m + t.length, ts ++ [t], bs, by go_num, by go_num, rfl, by omega, hm2, hbs, Lib.hid ⟨Hn.out, Hsum.out, fun hc => absurd hc hfit⟩, hbel.trans (hb2.mono hbel.size)⟩
          case measure => simp [intOf]; omega
    · have hall : getT look l = some ts := by have := hh.out.1; rwa [List.take_of_length_le (by omega)] at this
      have hmt := hh.out.2.1
      by_cases hbig : 5000 < m
      · have Hg := Lib.hid (show ([], 2) = G from by rw [← HG.out, getE, hall]; simp only; rw [if_pos (by omega)])
        have hbigI : (5000 : Int) < (m : Int) := by omega
        clear hall hmt hnm
        go_wp2_with fail
        go_ret2
        have h1 := congrArg Prod.fst Hg.out
        have h2 := congrArg Prod.snd Hg.out
        simp only at h1 h2
        exact ⟨by rw [← h1, ← h2]; rfl, hbel⟩
      · have Hg := Lib.hid (show (bs, 0) = G from by rw [← HG.out, getE, hall]; simp only; rw [if_neg (by omega), hh.out.2.2 (by omega)])
        have hbigI : ¬ (5000 : Int) < (m : Int) := by omega
        clear hall hmt hnm
        go_wp2_with fail
        go_ret2
        have h1 := congrArg Prod.fst Hg.out
        have h2 := congrArg Prod.snd Hg.out
        simp only at h1 h2
        exact ⟨by rw [← h1, ← h2]; rfl, hbel⟩
theorem w_RpOut (a : Int) (w : World) : Calls Tryd.prog 38 #[.int .i64 a, .int .i64 1, .int .i64 1000000] w fun e w' => e = .returned (.bool (decide (¬ (1 ≤ a ∧ a ≤ 1000000)))) ∧ w' = w := by
  by_cases h1 : a < 1
  · have hd : decide (¬ (1 ≤ a ∧ a ≤ 1000000)) = true := by simp only [decide_eq_true_eq]; omega
    rw [hd]
    go_enter Tryd.func38, Tryd.ntmps38
    go_wp2_with fail
    go_ret
    exact ⟨rfl, rfl⟩
  · by_cases h2 : 1000000 < a
    · have hd : decide (¬ (1 ≤ a ∧ a ≤ 1000000)) = true := by simp only [decide_eq_true_eq]; omega
      rw [hd]
      go_enter Tryd.func38, Tryd.ntmps38
      go_wp2_with fail
      go_ret
      exact ⟨rfl, rfl⟩
    · have hd : decide (¬ (1 ≤ a ∧ a ≤ 1000000)) = false := by simp only [decide_eq_false_iff_not, Classical.not_not]; omega
      rw [hd]
      go_enter Tryd.func38, Tryd.ntmps38
      go_wp2_with fail
      go_ret
      exact ⟨rfl, rfl⟩
def RpNewP (room : Int) (w : World) (e : Ending) (w' : World) : Prop :=
  (¬ (1 ≤ room ∧ room ≤ 1000000) ∧ e = .returned (.tuple #[.pointer none, .int .i64 1]) ∧ Below w.heap.size w w') ∨
  (∃ n : Nat, room = n ∧ 1 ≤ n ∧ n ≤ 1000000 ∧ ∃ c, e = .returned (.tuple #[pgP c, .int .i64 0]) ∧ RfP w' c n none 0 [] ∧ w.heap.size ≤ c ∧ Below w.heap.size w w')
theorem w_RpNew (room : Int) (hr : -9223372036854775808 ≤ room ∧ room ≤ 9223372036854775807) {w : World} : Calls Tryd.prog 14 #[.int .i64 room] w (RpNewP room w) := by
  have ho := fun W => w_RpOut room W
  by_cases hin : 1 ≤ room ∧ room ≤ 1000000
  · obtain ⟨n, rfl⟩ : ∃ n : Nat, room = n := ⟨room.toNat, by omega⟩
    have hd : decide (¬ ((1 : Int) ≤ n ∧ (n : Int) ≤ 1000000)) = false := by simp; omega
    rw [hd] at ho
    go_enter Tryd.func14, Tryd.ntmps14
    go_wp2_with (go_at_call 38; refine (ho _).mono ?_; rintro e w1 ⟨rfl, rfl⟩)
    go_ret2
    have bx := BoxAt.new w1 [.int .i64 (n : Int), .slice none 0 0] 84
    exact Or.inr ⟨n, rfl, by omega, by omega, _, rfl, ⟨bx, OwnL.nil _ _ _⟩, Nat.le_refl _, (Below.refl _ _).alloc (Nat.le_refl _) _⟩
  · have hd : decide (¬ (1 ≤ room ∧ room ≤ 1000000)) = true := by simp only [decide_eq_true_eq]; exact hin
    rw [hd] at ho
    have Hin := Lib.hid hin
    clear hin hd
    go_enter Tryd.func14, Tryd.ntmps14
    go_wp2_with (go_at_call 38; refine (ho _).mono ?_; rintro e w1 ⟨rfl, rfl⟩)
    go_ret2
    exact Or.inl ⟨Hin.out, rfl, Below.refl _ _⟩
end Go.Proofs.YtbchkaoocobpfaaDoor
