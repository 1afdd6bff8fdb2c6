/- Piles: the program's and the reference's side by side. -/
import Derived.Test.YtbchkaoocobpfaaDoorWPl3
import Derived.Test.YtbchkaoocobpfaaDoorWPr4
import Derived.Test.YtbchkaoocobpfaaDoorWEq
import Derived.Test.YtbchkaoocobpfaaDoorWStp
namespace Go.Larder
theorem sub_sets : ∀ {a b : List Txt}, a.Nodup → (∀ x ∈ a, x ∈ b) → sumT a ≤ sumT b ∧ a.length ≤ b.length
  | [], b, _, _ => by simp [sumT]
  | x :: a, b, hn, hs => by
    obtain ⟨b1, b2, rfl⟩ := List.append_of_mem (hs x (by simp))
    have h3 := sub_sets (a := a) (b := b1 ++ b2) (List.nodup_cons.1 hn).2 (fun e he => by
      have h4 := hs e (by simp [he])
      simp only [List.mem_append, List.mem_cons] at h4 ⊢
      rcases h4 with h4 | rfl | h4
      · exact .inl h4
      · exact absurd he (List.nodup_cons.1 hn).1
      · exact .inr h4)
    simp only [sumT_append, sumT_cons, List.length_append, List.length_cons] at h3 ⊢
    omega
theorem sum_sub {a b : List Txt} (h : List.Sublist a b) : sumT a ≤ sumT b := by
  induction h with
  | slnil => exact Nat.le_refl _
  | cons x _ ih => rw [sumT_cons]; omega
  | cons_cons x _ ih => rw [sumT_cons, sumT_cons]; omega
theorem dropGo_sub {nm : Txt → Txt} {all : List Txt} : ∀ {l rest r : List Txt}, dropGo nm all rest l = some r → List.Sublist r rest
  | [], rest, r, h => by injection h with h; rw [h]; exact List.Sublist.refl _
  | n :: l, rest, r, h => by
    rw [dropGo] at h
    cases hf : (distT all).find? (fun t => nm t == n) with
    | none => rw [hf] at h; cases h
    | some t =>
      rw [hf] at h
      by_cases ht : t ∈ rest
      · simp only [if_pos ht] at h
        exact (dropGo_sub h).trans List.erase_sublist
      · simp only [if_neg ht] at h; cases h
/-- the bounds of a pile's texts -/
structure OkL (room B : Nat) (l : List Txt) : Prop where
  len : l.length ≤ B
  sum : sumT l ≤ B
  txt : ∀ t ∈ l, t.length ≤ 5000 ∧ t ≠ []
  used : usedT l ≤ room
  many : manyT l ≤ 10000
theorem OkL.nil (room : Nat) : OkL room 0 [] := ⟨by simp, by simp [sumT], by simp, Nat.zero_le _, Nat.zero_le _⟩
theorem OkL.more {room B B' : Nat} {l : List Txt} (h : OkL room B l) (hB : B ≤ B') : OkL room B' l := ⟨Nat.le_trans h.len hB, Nat.le_trans h.sum hB, h.txt, h.used, h.many⟩
theorem OkL.sub {room B : Nat} {l r : List Txt} (h : OkL room B l) (hs : List.Sublist r l) : OkL room B r := by
  have h1 := sub_sets (nodup_distT r) (b := distT l) (fun x hx => mem_distT.2 (hs.subset (mem_distT.1 hx)))
  exact ⟨Nat.le_trans hs.length_le h.len, Nat.le_trans (sum_sub hs) h.sum, fun t ht => h.txt t (hs.subset ht), Nat.le_trans h1.1 h.used, Nat.le_trans h1.2 h.many⟩
end Go.Larder
namespace Go.Proofs.YtbchkaoocobpfaaDoor
open Go.RowKit Go.Larder
set_option linter.unusedVariables false
set_option linter.unusedSimpArgs false
open Classical in
/-- what put answers -/
noncomputable def putE (room : Nat) (l : List Txt) (s : Txt) : Int :=
  if 5000 < s.length then 2 else if ¬ InjT nmT (l ++ cutC s) then 9 else if room < usedT (l ++ cutC s) ∨ 10000 < manyT (l ++ cutC s) then 6 else 0
noncomputable def putN (room : Nat) (l : List Txt) (s : Txt) : List Txt := if putE room l s = 0 then l ++ cutC s else l
noncomputable def putM_ (room : Nat) (l : List Txt) (s : Txt) : List Txt := if putE room l s = 0 then (cutC s).map nmT else []
noncomputable def dropE (l ls : List Txt) : Int := if (dropGo nmT l l ls).isSome then 0 else 4
noncomputable def dropN (l ls : List Txt) : List Txt := (dropGo nmT l l ls).getD l
theorem putE_small {room : Nat} {l : List Txt} {s : Txt} (hs : s.length ≤ 5000) :
    (¬ InjT nmT (l ++ cutC s) → putE room l s = 9) ∧ (InjT nmT (l ++ cutC s) → room < usedT (l ++ cutC s) ∨ 10000 < manyT (l ++ cutC s) → putE room l s = 6) ∧
    (InjT nmT (l ++ cutC s) → ¬ (room < usedT (l ++ cutC s) ∨ 10000 < manyT (l ++ cutC s)) → putE room l s = 0) := by
  unfold putE
  rw [if_neg (by omega)]
  exact ⟨fun h => if_pos h, fun h h2 => by rw [if_neg (fun h3 => h3 h), if_pos h2], fun h h2 => by rw [if_neg (fun h3 => h3 h), if_neg h2]⟩
theorem putE_zero {room : Nat} {l : List Txt} {s : Txt} (h : putE room l s = 0) : s.length ≤ 5000 ∧ InjT nmT (l ++ cutC s) ∧ usedT (l ++ cutC s) ≤ room ∧ manyT (l ++ cutC s) ≤ 10000 := by
  by_cases hs : 5000 < s.length
  · rw [putE, if_pos hs] at h; cases h
  · obtain ⟨h1, h2, h3⟩ := putE_small (room := room) (l := l) (s := s) (by omega)
    by_cases hi : InjT nmT (l ++ cutC s)
    · by_cases hu : room < usedT (l ++ cutC s) ∨ 10000 < manyT (l ++ cutC s)
      · rw [h2 hi hu] at h; cases h
      · exact ⟨by omega, hi, by omega, by omega⟩
    · rw [h1 hi] at h; cases h
theorem okPut {room B : Nat} {l : List Txt} (s : Txt) (h : OkL room B l) : OkL room (B + s.length + 1) (putN room l s) := by
  unfold putN
  by_cases h0 : putE room l s = 0
  · rw [if_pos h0]
    obtain ⟨h1, h2, h3, h4⟩ := putE_zero h0
    have hsum : sumT (cutC s) = s.length := by rw [← sum_flat, cutC_flat]
    have hcn := cutC_cnt s
    refine ⟨?_, ?_, fun t ht => ?_, h3, h4⟩
    · have := h.len; rw [List.length_append]; omega
    · have := h.sum; rw [sumT_append]; omega
    · rcases List.mem_append.1 ht with ht | ht
      · exact h.txt t ht
      · exact ⟨by have := sum_mem ht; omega, cutC_ne t ht⟩
  · rw [if_neg h0]
    exact h.more (by omega)
theorem okDrop {room B : Nat} {l : List Txt} (ls : List Txt) (h : OkL room B l) : OkL room B (dropN l ls) := by
  unfold dropN
  cases hd : dropGo nmT l l ls with
  | none => exact h
  | some r => exact h.sub (dropGo_sub hd)
/-- both piles, and a box kept aside -/
def StX (w0 : World) (b c room gx : Nat) (xs : List Value) (l m : List Txt) (W : World) : Prop :=
  ∃ gm E cnt A cap, PileAt W b gm room (sumT (E.map (·.2))) E cnt ∧ PR nmT l E cnt ∧ RfP W c room A cap m ∧ (∀ j, FPl b gm E j → ¬ FRp c A j) ∧ (∀ j, FPl b gm E j ∨ FRp c A j → w0.heap.size ≤ j ∧ j ≠ gx) ∧ BoxAt W gx 46 xs ∧ Below w0.heap.size w0 W
variable {w0 W W' : World} {b c room gx : Nat} {xs : List Value} {l m : List Txt}
theorem StX.box (h : StX w0 b c room gx xs l m W) : BoxAt W gx 46 xs := by obtain ⟨_, _, _, _, _, _, _, _, _, _, h, _⟩ := h; exact h
theorem StX.bel (h : StX w0 b c room gx xs l m W) : Below w0.heap.size w0 W := by obtain ⟨_, _, _, _, _, _, _, _, _, _, _, h⟩ := h; exact h
theorem StX.keep (h : StX w0 b c room gx xs l m W) (hb : Below W.heap.size W W') : StX w0 b c room gx xs l m W' := by
  obtain ⟨gm, E, cnt, A, cap, h1, h2, h3, h4, h5, h6, h7⟩ := h
  exact ⟨gm, E, cnt, A, cap, h1.keep hb, h2, h3.keep hb, h4, h5, h6.keep hb, h7.trans (hb.mono h7.size)⟩
theorem StX.drewX (h : StX w0 b c room gx xs l m W) : StX w0 b c room gx xs l m W.drew := h.keep (Below.refl _ _).drew
theorem StX.go {gm cap : Nat} {E : List (Nat × Txt)} {A : Option Addr} {l' : List Txt} (h3 : RfP W c room A cap m) (h4 : ∀ j, FPl b gm E j → ¬ FRp c A j) (h5 : ∀ j, FPl b gm E j ∨ FRp c A j → w0.heap.size ≤ j ∧ j ≠ gx)
    (h6 : BoxAt W gx 46 xs) (h7 : Below w0.heap.size w0 W) (hp : PileP W b gm room E l' W') : StX w0 b c room gx xs l' m W' := by
  obtain ⟨E', cnt', hr', hth, hs, hF⟩ := hp
  refine ⟨gm, E', cnt', A, cap, hr', hth, h3.but hs (fun j hj hj2 => h4 j hj2 hj), fun j hj hj2 => ?_, fun j hj => ?_, hs.box h6 (fun hj => (h5 gx (.inl hj)).2 rfl), h7.trans (hs.toBelow h7.size fun j hj hf => by have := (h5 j (.inl hf)).1; omega)⟩
  · rcases hF j hj with h | h
    · exact h4 j h hj2
    · have := h3.flt hj2; omega
  · rcases hj with hj | hj
    · rcases hF j hj with h | h
      · exact h5 j (.inl h)
      · have := h7.size
        have := h6.lt
        exact ⟨by omega, by omega⟩
    · exact h5 j (.inr hj)
theorem StX.ref {gm : Nat} {E : List (Nat × Txt)} {cnt : Txt → Nat} {A : Option Addr} {m' : List Txt} (h1 : PileAt W b gm room (sumT (E.map (·.2))) E cnt) (h2 : PR nmT l E cnt) (h4 : ∀ j, FPl b gm E j → ¬ FRp c A j) (h5 : ∀ j, FPl b gm E j ∨ FRp c A j → w0.heap.size ≤ j ∧ j ≠ gx)
    (h6 : BoxAt W gx 46 xs) (h7 : Below w0.heap.size w0 W) (hp : ∃ A3 cap3, RfP W' c room A3 cap3 m' ∧ ∀ j, FRp c A3 j → FRp c A j ∨ W.heap.size ≤ j) (hs : SameBut (fun j => j = c) W W') : StX w0 b c room gx xs l m' W' := by
  obtain ⟨A', cap', hr', hF⟩ := hp
  refine ⟨gm, E, cnt, A', cap', h1.but hs (fun j hj e => h4 j hj (.inl e)), h2, hr', fun j hj hj2 => ?_, fun j hj => ?_, hs.box h6 (fun e => (h5 gx (.inr (.inl e))).2 rfl), h7.trans (hs.toBelow h7.size fun j hj hf => by have := (h5 j (.inr (.inl hf))).1; omega)⟩
  · rcases hF j hj2 with h | h
    · exact h4 j hj h
    · have := h1.lt hj; omega
  · rcases hj with hj | hj
    · exact h5 j (.inl hj)
    · rcases hF j hj with h | h
      · exact h5 j (.inr h)
      · have := h7.size
        have := h6.lt
        exact ⟨by omega, by omega⟩
/-- names and error -/
def PutT (W : World) (room : Nat) (l : List Txt) (s : Txt) (e : Ending) (W' : World) : Prop :=
  ∃ A c, e = .returned (.tuple #[.slice A (putM_ room l s).length c, .int .i64 (putE room l s)]) ∧ OwnL encS W' W.heap.size 9 A c (putM_ room l s)
theorem st_put (s : Txt) (hsl : s.length ≤ 1048576) (hrm : room ≤ 1000000) {B : Nat} (hB : B ≤ 1048576) (ho : OkL room B l) (h : StX w0 b c room gx xs l m W) :
    Calls Tryd.prog 16 #[pgP b, S s] W fun e W' => PutT W room l s e W' ∧ StX w0 b c room gx xs (putN room l s) m W' := by
  by_cases hs : 5000 < s.length
  · have e2 : putE room l s = 2 := by rw [putE, if_pos hs]
    refine (w_PPutL s hs (by omega) (pgP b) W).mono ?_
    rintro e W' ⟨rfl, hb⟩
    refine ⟨⟨none, 0, ?_, ?_⟩, ?_⟩
    · rw [putM_, e2]; rfl
    · rw [putM_, e2]; exact OwnL.nil _ _ _
    · rw [putN, e2]; exact h.keep hb
  · obtain ⟨gm, E, cnt, A, cap, h1, h2, h3, h4, h5, h6, h7⟩ := h
    obtain ⟨hu, hm⟩ := h2.used
    have h2i : InjT nmT (E.map (·.2)) := h2.inj.sub fun x hx => (h2.mem x).1 hx
    obtain ⟨k9, k6, k0⟩ := putE_small (room := room) (l := l) (s := s) (by omega)
    have hsame : ∀ x, x ∈ E.map (·.2) ++ [] ++ cutC s ↔ x ∈ l ++ cutC s := fun x => by
      rw [List.append_nil, List.mem_append, List.mem_append, h2.mem x]
    have hiff : InjT nmT (E.map (·.2) ++ [] ++ cutC s) ↔ InjT nmT (l ++ cutC s) := ⟨fun h => h.sub fun x hx => (hsame x).2 hx, fun h => h.sub fun x hx => (hsame x).1 hx⟩
    have hsp := frGo_spec (nm := nmT) (B := E.map (·.2)) (cs := cutC s) (F := []) (by rw [List.append_nil]; exact h2.nd) (by rw [List.append_nil]; exact h2i)
    have hnum : ∀ F, frGo nmT (E.map (·.2)) [] (cutC s) = some F → InjT nmT (l ++ cutC s) ∧ sumT (E.map (·.2)) + sumT F = usedT (l ++ cutC s) ∧ E.length + F.length = manyT (l ++ cutC s) := by
      intro F hF
      rcases hsp with ⟨g1, _⟩ | ⟨F', g1, g2, g3, g4⟩
      · rw [hF] at g1; cases g1
      · rw [hF] at g1
        injection g1 with g1
        subst g1
        have g5 := same_sets g2 (nodup_distT (l ++ cutC s)) (fun x => ((g4 x).trans (hsame x)).trans mem_distT.symm)
        rw [sumT_append, List.length_append, List.length_map] at g5
        exact ⟨g3.sub fun x hx => (g4 x).2 ((hsame x).2 hx), g5.1, g5.2⟩
    refine (w_PPut1 (all := l) s (by omega) hrm (by have := ho.len; omega) (putE room l s) h2 h1 (by rw [hu]; exact ho.used) (by rw [hm]; exact ho.many) ?_ ?_ ?_).mono ?_
    · intro hn
      refine k9 fun hi => ?_
      rcases hsp with ⟨_, g2⟩ | ⟨F', g1, _⟩
      · exact g2 (hiff.2 hi)
      · rw [hn] at g1; cases g1
    · intro F hF hbad
      obtain ⟨g1, g2, g3⟩ := hnum F hF
      exact k6 g1 (by omega)
    · intro F hF hbad
      obtain ⟨g1, g2, g3⟩ := hnum F hF
      exact k0 g1 (by omega)
    · rintro e W' ⟨names, A2, c2, rfl, ho2, hz, hnz, hp⟩
      have hnm : names = putM_ room l s := by
        unfold putM_
        by_cases h0 : putE room l s = 0
        · rw [if_pos h0, hz h0]
        · rw [if_neg h0, hnz h0]
      rw [hnm] at ho2
      exact ⟨⟨A2, c2, by rw [hnm], ho2⟩, StX.go h3 h4 h5 h6 h7 hp⟩
theorem st_putR (hA : AS w0) (s : Txt) (hsl : s.length ≤ 1048576) (hrm : room ≤ 1000000) {B : Nat} (hB : B ≤ 1048576) (ho : OkL room B m) (h : StX w0 b c room gx xs l m W) :
    Calls Tryd.prog 17 #[pgP c, S s] W fun e W' => PutT W room m s e W' ∧ StX w0 b c room gx xs l (putN room m s) W' ∧ SameBut (fun j => j = c) W W' := by
  by_cases hs : 5000 < s.length
  · have e2 : putE room m s = 2 := by rw [putE, if_pos hs]
    refine (w_RpPutL s hs (by omega) (pgP c) W).mono ?_
    rintro e W' ⟨rfl, hb⟩
    refine ⟨⟨none, 0, ?_, ?_⟩, ?_, (Larder.Below.same hb).mono (fun j hj h2 => absurd h2 (by omega))⟩
    · rw [putM_, e2]; rfl
    · rw [putM_, e2]; exact OwnL.nil _ _ _
    · rw [putN, e2]; exact h.keep hb
  · obtain ⟨gm, E, cnt, A, cap, h1, h2, h3, h4, h5, h6, h7⟩ := h
    obtain ⟨k9, k6, k0⟩ := putE_small (room := room) (l := m) (s := s) (by omega)
    have hc := (h5 c (.inr (.inl rfl))).1
    refine (w_RpPut (all := m) s (by omega) hrm (by have := ho.len; omega) (by have := ho.sum; omega) ho.txt (fun W1 hs1 => hA.keep (h7.trans (hs1.toBelow h7.size fun j hj e => by omega))) (putE room m s) h3 k9 k6 k0).mono ?_
    rintro e W' ⟨names, A2, c2, rfl, ho2, hz, hnz, hp, hsb⟩
    have hnm : names = putM_ room m s := by
      unfold putM_
      by_cases h0 : putE room m s = 0
      · rw [if_pos h0, hz h0]
      · rw [if_neg h0, hnz h0]
    rw [hnm] at ho2
    exact ⟨⟨A2, c2, by rw [hnm], ho2⟩, StX.ref h1 h2 h4 h5 h6 h7 hp hsb, hsb⟩
theorem st_drop {ls : List Txt} {lA : Option Addr} {lc : Nat} (hls : ls.length ≤ 1048576) (hr : ReadL encS w0 w0.heap.size lA ls) (hrm : room ≤ 1000000) {B : Nat} (hB : B ≤ 1048576) (ho : OkL room B l) (h : StX w0 b c room gx xs l m W) :
    Calls Tryd.prog 19 #[pgP b, .slice lA ls.length lc] W fun e W' => e = .returned (.int .i64 (dropE l ls)) ∧ StX w0 b c room gx xs (dropN l ls) m W' := by
  have hh := h
  obtain ⟨gm, E, cnt, A, cap, h1, h2, h3, h4, h5, h6, h7⟩ := h
  have hu := h2.used.1
  have hsp := dropGo_spec h2.inj (l := ls) (rest := l) (fun t ht => ht)
  refine (w_PDrop hls lA lc ((hr.below h7 (Nat.le_refl _)).more h7.size) (by have := ho.len; omega) hrm (by rw [hu]; exact ho.used) h2 h1).mono ?_
  rintro e W' (⟨hno, rfl, hb⟩ | ⟨hok, rfl, hp⟩)
  · have hd : dropGo nmT l l ls = none := by
      rcases hsp with ⟨g1, _⟩ | ⟨r', g1, g2, _⟩
      · exact g1
      · exact absurd g2 hno
    unfold dropE dropN
    rw [hd]
    exact ⟨rfl, hh.keep hb⟩
  · rcases hsp with ⟨g1, g2⟩ | ⟨r', g1, g2, g3, g4⟩
    · exact absurd hok g2
    · unfold dropE dropN
      rw [g1]
      exact ⟨rfl, StX.go h3 h4 h5 h6 h7 (hp r' g3 g4)⟩
theorem st_dropR (hA : AS w0) {ls : List Txt} {lA : Option Addr} {lc : Nat} (hls : ls.length ≤ 1048576) (hr : ReadL encS w0 w0.heap.size lA ls) {B : Nat} (hB : B ≤ 1048576) (ho : OkL room B m) (h : StX w0 b c room gx xs l m W) :
    Calls Tryd.prog 20 #[pgP c, .slice lA ls.length lc] W fun e W' => e = .returned (.int .i64 (dropE m ls)) ∧ StX w0 b c room gx xs l (dropN m ls) W' := by
  have hh := h
  obtain ⟨gm, E, cnt, A, cap, h1, h2, h3, h4, h5, h6, h7⟩ := h
  refine (w_RpDrop hls lA lc ((hr.below h7 (Nat.le_refl _)).more h7.size) (by have := ho.len; omega) (fun t ht => (ho.txt t ht).1) (hA.keep h7) h3).mono ?_
  rintro e W' (⟨hno, rfl, hb⟩ | ⟨r', hok, rfl, hp, hsb⟩)
  · unfold dropE dropN
    rw [hno]
    exact ⟨rfl, hh.keep hb⟩
  · unfold dropE dropN
    rw [hok]
    exact ⟨rfl, StX.ref h1 h2 h4 h5 h6 h7 hp hsb⟩
theorem st_get {ls : List Txt} {lA : Option Addr} {lc : Nat} (hls : ls.length ≤ 1048576) (hr : ReadL encS W W.heap.size lA ls) {B : Nat} (ho : OkL room B l) (h : StX w0 b c room gx xs l m W) :
    Calls Tryd.prog 21 #[pgP b, .slice lA ls.length lc] W fun e W' => e = .returned (.tuple #[S (getE (lookT nmT l) ls).1, .int .i64 (getE (lookT nmT l) ls).2]) ∧ Below W.heap.size W W' := by
  obtain ⟨gm, E, cnt, A, cap, h1, h2, h3, h4, h5, h6, h7⟩ := h
  have hl := lookT_same h2.inj h2.mem
  have := w_PGet ls hls lA lc hr (h2.inj.sub fun x hx => (h2.mem x).1 hx) (fun e he => (ho.txt e.2 ((h2.mem e.2).1 (List.mem_map.2 ⟨e, he, rfl⟩))).1) h1
  rw [hl] at this
  exact this
theorem st_getR (hA : AS w0) {ls : List Txt} {lA : Option Addr} {lc : Nat} (hls : ls.length ≤ 1048576) (hr : ReadL encS W W.heap.size lA ls) {B : Nat} (hB : B ≤ 1048576) (ho : OkL room B l) (h : StX w0 b c room gx xs l l W) :
    Calls Tryd.prog 22 #[pgP c, .slice lA ls.length lc] W fun e W' => e = .returned (.tuple #[S (getE (lookT nmT l) ls).1, .int .i64 (getE (lookT nmT l) ls).2]) ∧ Below W.heap.size W W' := by
  obtain ⟨gm, E, cnt, A, cap, h1, h2, h3, h4, h5, h6, h7⟩ := h
  have hl := lookT_same h2.inj (b := distT l) (fun t => mem_distT)
  have := w_RpGet hls lA lc hr (by have := ho.len; omega) (fun t ht => (ho.txt t ht).1) (hA.keep h7) h3
  rw [hl] at this
  exact this
/-- what is used and how many, of both -/
theorem st_nums {B : Nat} (hB : B ≤ 1048576) (ho : OkL room B l) (h : StX w0 b c room gx xs l l W) :
    (Calls Tryd.prog 23 #[pgP b] W fun e W' => e = .returned (.int .i64 (usedT l : Int)) ∧ W' = W) ∧
    (Calls Tryd.prog 24 #[pgP c] W fun e W' => e = .returned (.int .i64 (usedT l : Int)) ∧ Below W.heap.size W W') ∧
    (∀ W1, Below W.heap.size W W1 → Calls Tryd.prog 25 #[pgP b] W1 fun e W' => e = .returned (.int .i64 (manyT l : Int)) ∧ W' = W1) ∧
    (∀ W1, Below W.heap.size W W1 → Calls Tryd.prog 26 #[pgP c] W1 fun e W' => e = .returned (.int .i64 (manyT l : Int)) ∧ Below W1.heap.size W1 W') := by
  obtain ⟨gm, E, cnt, A, cap, h1, h2, h3, h4, h5, h6, h7⟩ := h
  obtain ⟨hu, hm⟩ := h2.used
  refine ⟨by rw [← hu]; exact w_PUsed h1, w_RpUsed (by have := ho.len; omega) (by have := ho.sum; omega) h3, fun W1 hb => by rw [← hm]; exact w_PMany (h1.keep hb), fun W1 hb => w_RpMany (by have := ho.len; omega) (h3.keep hb)⟩
/-- both piles -/
def StR (w0 : World) (b c room : Nat) (l : List Txt) (W : World) : Prop :=
  ∃ gm E cnt A cap, PileAt W b gm room (sumT (E.map (·.2))) E cnt ∧ PR nmT l E cnt ∧ RfP W c room A cap l ∧ (∀ j, FPl b gm E j → ¬ FRp c A j) ∧ (∀ j, FPl b gm E j ∨ FRp c A j → w0.heap.size ≤ j) ∧ Below w0.heap.size w0 W
theorem StR.toX (h : StR w0 b c room l W) (hb : Below W.heap.size W W') (bx : BoxAt W' gx 46 xs) (hg : W.heap.size ≤ gx) : StX w0 b c room gx xs l l W' := by
  obtain ⟨gm, E, cnt, A, cap, h1, h2, h3, h4, h5, h6⟩ := h
  refine ⟨gm, E, cnt, A, cap, h1.keep hb, h2, h3.keep hb, h4, fun j hj => ⟨h5 j hj, ?_⟩, bx, h6.trans (hb.mono h6.size)⟩
  rcases hj with hj | hj
  · have := h1.lt hj; omega
  · have := h3.flt hj; omega
theorem StX.toR (h : StX w0 b c room gx xs l l W) : StR w0 b c room l W := by
  obtain ⟨gm, E, cnt, A, cap, h1, h2, h3, h4, h5, h6, h7⟩ := h
  exact ⟨gm, E, cnt, A, cap, h1, h2, h3, h4, fun j hj => (h5 j hj).1, h7⟩
theorem nmT_len (t : Txt) : (nmT t).length = 64 := by
  have : ∀ s : List UInt8, (hexL s).length = 2 * s.length := by
    intro s
    induction s with
    | nil => rfl
    | cons x s ih => simp only [hexL, List.flatMap_cons, List.length_append, List.length_cons, List.length_nil] at ih ⊢; omega
  rw [nmT, this, digL_len]
theorem get_q (l : List Txt) : getE (lookT nmT l) [[63]] = ([], 4) := by
  have h : lookT nmT l [63] = none := lookT_not fun t _ e => by
    have := congrArg List.length e
    rw [nmT_len] at this
    simp at this
  rw [getE, getT_none (by simp) h]
end Go.Proofs.YtbchkaoocobpfaaDoor
