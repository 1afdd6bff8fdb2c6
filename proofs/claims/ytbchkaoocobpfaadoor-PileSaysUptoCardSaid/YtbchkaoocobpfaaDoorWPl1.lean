/- Walks: piles: made, counted, a text got. -/
import Derived.Test.YtbchkaoocobpfaaDoorSpecs
import Derived.Test.YtbchkaoocobpfaaDoorWDgZ
import Derived.Test.YtbchkaoocobpfaaDoorWDgX
import Derived.Test.YtbchkaoocobpfaaDoorWChe
import Derived.Lib.Walk
import Derived.Lib.Hide
import Derived.Deep.CutBlock
import Derived.Deep.DeepCutAuto
import Derived.StillTailTactics
import Derived.StillTactics
namespace Go.Larder
abbrev pgP (g : Nat) : Value := .pointer (some ⟨g, 0, none⟩)
/-- a pile's pieces: their blocks, their texts -/
def mapE (nm : Txt → Txt) (E : List (Nat × Txt)) : List (Txt × Value) := E.map fun e => (nm e.2, pgP e.1)
theorem getM_mapE {nm : Txt → Txt} : ∀ {E : List (Nat × Txt)} {n : Txt}, (getM (mapE nm E) n = none ∧ ∀ e ∈ E, nm e.2 ≠ n) ∨ ∃ e ∈ E, nm e.2 = n ∧ getM (mapE nm E) n = some (pgP e.1)
  | [], n => .inl ⟨rfl, by simp⟩
  | e :: E, n => by
    by_cases h : nm e.2 = n
    · refine .inr ⟨e, by simp, h, ?_⟩
      simp [mapE, getM, h]
    · have h2 : ¬ n = nm e.2 := fun e1 => h e1.symm
      have hs : getM (mapE nm (e :: E)) n = getM (mapE nm E) n := by
        show getM ((nm e.2, pgP e.1) :: mapE nm E) n = _
        rw [getM, if_neg h2]
      rcases getM_mapE (nm := nm) (E := E) (n := n) with ⟨h3, h4⟩ | ⟨e2, he2, h3, h4⟩
      · refine .inl ⟨hs.trans h3, fun x hx => ?_⟩
        rcases List.mem_cons.1 hx with rfl | hx
        · exact h
        · exact h4 x hx
      · exact .inr ⟨e2, List.mem_cons_of_mem _ he2, h3, hs.trans h4⟩
end Go.Larder
namespace Go.Proofs.YtbchkaoocobpfaaDoor
open Go.RowKit Go.Larder
set_option linter.unusedVariables false
set_option linter.unusedSimpArgs false
/-- the name of a text -/
def nmT (t : Txt) : Txt := hexL (digL t)
/-- a pile -/
structure PileAt (w : World) (b gm room u : Nat) (E : List (Nat × Txt)) (cnt : Txt → Nat) : Prop where
  box : BoxAt w b 81 [.int .i64 (room : Int), .int .i64 (u : Int), .map (some gm)]
  map : MapAt w gm (mapE nmT E)
  pcs : ∀ e ∈ E, BoxAt w e.1 90 [S e.2, .int .i64 (cnt e.2 : Int)]
  nb : (E.map (·.1)).Nodup
variable {w w' : World} {b gm room u : Nat} {E : List (Nat × Txt)} {cnt : Txt → Nat}
/-- its blocks -/
def FPl (b gm : Nat) (E : List (Nat × Txt)) (j : Nat) : Prop := j = b ∨ j = gm ∨ j ∈ E.map (·.1)
theorem PileAt.lt (h : PileAt w b gm room u E cnt) {j : Nat} (hj : FPl b gm E j) : j < w.heap.size := by
  rcases hj with rfl | rfl | hj
  · exact h.box.lt
  · exact h.map.lt
  · obtain ⟨e, he, rfl⟩ := List.mem_map.1 hj
    exact (h.pcs e he).lt
theorem PileAt.but {B : Nat → Prop} (h : PileAt w b gm room u E cnt) (hs : SameBut B w w') (hB : ∀ j, FPl b gm E j → ¬ B j) : PileAt w' b gm room u E cnt :=
  ⟨hs.box h.box (hB b (.inl rfl)), h.map.but hs (hB gm (.inr (.inl rfl))), fun e he => hs.box (h.pcs e he) (hB e.1 (.inr (.inr (List.mem_map.2 ⟨e, he, rfl⟩)))), h.nb⟩
theorem PileAt.keep (h : PileAt w b gm room u E cnt) (hb : Below w.heap.size w w') : PileAt w' b gm room u E cnt :=
  h.but (Larder.Below.same hb) (fun j hj => by have := h.lt hj; show ¬ w.heap.size ≤ j; omega)
theorem box_apart {w : World} {g1 g2 t1 t2 : Nat} {c1 c2 : List Value} (h1 : BoxAt w g1 t1 c1) (h2 : BoxAt w g2 t2 c2) (hne : t1 ≠ t2) : g1 ≠ g2 := by
  intro e
  subst e
  unfold BoxAt at h1 h2
  rw [h1] at h2
  injection h2 with h2
  injection h2 with _ h2
  exact hne h2
theorem PileAt.gmNe (h : PileAt w b gm room u E cnt) : gm ≠ b := h.map.box_ne h.box
theorem PileAt.bNe (h : PileAt w b gm room u E cnt) {e : Nat × Txt} (he : e ∈ E) : e.1 ≠ b := box_apart (h.pcs e he) h.box (by decide)
theorem PileAt.gmNe2 (h : PileAt w b gm room u E cnt) {e : Nat × Txt} (he : e ∈ E) : gm ≠ e.1 := h.map.box_ne (h.pcs e he)
theorem lookP (w : World) : (zeroValue 88).run Tryd.prog w = .ok (.pointer none) w := by kernel_rfl
/-- a piece asked for -/
theorem PileAt.look (h : PileAt w b gm room u E cnt) (n : Txt) :
    ((Instr.lookup 79 (.map (some gm)) (S n) false).run Tryd.prog w = .ok (.pointer none) w ∧ ∀ e ∈ E, nmT e.2 ≠ n) ∨
    ∃ e ∈ E, nmT e.2 = n ∧ (Instr.lookup 79 (.map (some gm)) (S n) false).run Tryd.prog w = .ok (pgP e.1) w := by
  rcases getM_mapE (nm := nmT) (E := E) (n := n) with ⟨h1, h2⟩ | ⟨e, he, h1, h2⟩
  · exact .inl ⟨run_lookup_none (P := Tryd.prog) Tryd.underlying79 Tryd.underlying9 h.map n false (lookP w) h1, h2⟩
  · exact .inr ⟨e, he, h1, run_lookup_S (P := Tryd.prog) (i := 0) Tryd.underlying79 Tryd.underlying9 h.map n false h2⟩
/-- what New leaves -/
def PNewP (room : Int) (w : World) (e : Ending) (w' : World) : Prop :=
  (¬ (1 ≤ room ∧ room ≤ 1000000) ∧ e = .returned (.tuple #[.pointer none, .int .i64 1]) ∧ Below w.heap.size w w') ∨
  (∃ n : Nat, room = n ∧ 1 ≤ n ∧ n ≤ 1000000 ∧ ∃ b gm, e = .returned (.tuple #[pgP b, .int .i64 0]) ∧ PileAt w' b gm n 0 [] (fun _ => 0) ∧ (∀ j, FPl b gm [] j → w.heap.size ≤ j) ∧ Below w.heap.size w w')
theorem w_PNew (room : Int) (hr : -9223372036854775808 ≤ room ∧ room ≤ 9223372036854775807) (w : World) : Calls Tryd.prog 13 #[.int .i64 room] w (PNewP room w) := by
  have hmm := @run_makeMap Tryd.prog
  by_cases h1 : room < 1
  · go_enter Tryd.func13, Tryd.ntmps13
    go_wp2_with fail
    go_ret2
    exact Or.inl ⟨by omega, rfl, Below.refl _ _⟩
  · by_cases h2 : 1000000 < room
    · go_enter Tryd.func13, Tryd.ntmps13
      go_wp2_with fail
      go_ret2
      exact Or.inl ⟨by omega, rfl, Below.refl _ _⟩
    · obtain ⟨n, rfl⟩ : ∃ n : Nat, room = n := ⟨room.toNat, by omega⟩
      have hm := MapAt.made w
      have bx := BoxAt.new (w.alloc (.map #[] 0)) [.int .i64 (n : Int), .int .i64 0, .map (some w.heap.size)] 81
      rw [World.size_alloc] at bx
      have hm2 := hm.alloc (.cells #[.int .i64 (n : Int), .int .i64 0, .map (some w.heap.size)] 81)
      have hB := ((Below.refl w.heap.size w).alloc (Nat.le_refl _) (.map #[] 0)).alloc (by simp) (.cells #[.int .i64 (n : Int), .int .i64 0, .map (some w.heap.size)] 81)
      go_enter Tryd.func13, Tryd.ntmps13
      go_wp2_with fail
      go_ret2
      refine Or.inr ⟨n, rfl, by omega, by omega, _, _, rfl, ⟨bx, hm2, by simp, by simp⟩, ?_, hB⟩
      rintro j (rfl | rfl | hj)
      · omega
      · exact Nat.le_refl _
      · simp at hj
theorem w_PUsed (h : PileAt w b gm room u E cnt) : Calls Tryd.prog 23 #[pgP b] w fun e w' => e = .returned (.int .i64 (u : Int)) ∧ w' = w := by
  have c1 := h.box.cell (j := 1) rfl
  go_enter Tryd.func23, Tryd.ntmps23
  go_wp2_with fail
  go_ret
  exact ⟨rfl, rfl⟩
theorem w_PMany (h : PileAt w b gm room u E cnt) : Calls Tryd.prog 25 #[pgP b] w fun e w' => e = .returned (.int .i64 (E.length : Int)) ∧ w' = w := by
  have c1 := h.box.cell (j := 2) rfl
  have hl := fun ty => Go.Larder.run_len_map (P := Tryd.prog) Tryd.underlying79 h.map ty
  have hE : (mapE nmT E).length = E.length := by simp [mapE]
  rw [hE] at hl
  go_enter Tryd.func25, Tryd.ntmps25
  go_wp2_with fail
  go_ret
  exact ⟨rfl, rfl⟩
theorem info_u8P : (Tryd.prog.info? 5).map (fun i => (i.zero, i.size, i.bytes)) = some (some (.int .u8 0), 1, 1) := by kernel_rfl
set_option maxHeartbeats 4000000 in
set_option maxRecDepth 100000 in
theorem w_PGet (l : List Txt) (hl : l.length ≤ 1048576) (A : Option Addr) (c : Nat) (hr : ReadL encS w w.heap.size A l) (hi : InjT nmT (E.map (·.2))) (hE : ∀ e ∈ E, e.2.length ≤ 5000) (h : PileAt w b gm room u E cnt) :
    Calls Tryd.prog 21 #[pgP b, .slice A l.length c] w fun e w' => e = .returned (.tuple #[S (getE (lookT nmT (E.map (·.2))) l).1, .int .i64 (getE (lookT nmT (E.map (·.2))) l).2]) ∧ Below w.heap.size w w' := by
  obtain ⟨look, hlook⟩ : ∃ look, lookT nmT (E.map (·.2)) = look := ⟨_, rfl⟩
  rw [hlook]
  obtain ⟨G, hG⟩ : ∃ G, getE look l = G := ⟨_, rfl⟩
  rw [hG]
  have HG := Lib.hid hG
  clear hG
  have hk : ∀ W, Below w.heap.size w W → ∀ n, ((Instr.lookup 79 (.map (some gm)) (S n) false).run Tryd.prog W = .ok (.pointer none) W ∧ look n = none) ∨
      ∃ g t, t.length ≤ 5000 ∧ BoxAt W g 90 [S t, .int .i64 (cnt t : Int)] ∧ look n = some t ∧ (Instr.lookup 79 (.map (some gm)) (S n) false).run Tryd.prog W = .ok (pgP g) W := by
    intro W hW n
    have h2 := h.keep hW
    rcases h2.look n with ⟨h3, h4⟩ | ⟨e, he, h3, h4⟩
    · refine .inl ⟨h3, ?_⟩
      rw [← hlook]
      refine lookT_not fun t ht => ?_
      obtain ⟨e, he, rfl⟩ := List.mem_map.1 ht
      exact h4 e he
    · refine .inr ⟨e.1, e.2, hE e he, h2.pcs e he, ?_, h4⟩
      rw [← hlook]
      exact lookT_of hi (List.mem_map.2 ⟨e, he, rfl⟩) h3
  have hbx := fun W (hW : Below w.heap.size w W) => (h.keep hW).box.cell (j := 2) rfl
  have c2 := h.box.cell (j := 2) rfl
  clear hlook
  go_enter Tryd.func21, Tryd.ntmps21
  go_wp2_with fail
  go_loopw [6, 7, 13] (fun b' m' i' wr => ∃ (i m : Nat) (ts : List Txt) (bs : Txt) (A2 : Option Addr) (c2 : Nat), i' = .int .i64 i ∧ m' = .int .i64 m ∧ b' = .slice A2 bs.length c2 ∧ i ≤ l.length ∧ m ≤ 5000 * i ∧ bs.length ≤ 5000 ∧ Hid (getT look (l.take i) = some ts ∧ m = sumT ts ∧ (m ≤ 5000 → bs = ts.flatten)) ∧ OwnL encB wr w.heap.size 5 A2 c2 bs ∧ Below w.heap.size w wr) (fun _ _ i' _ => l.length - (intOf i').toNat)
  case atStart => exact ⟨0, 0, [], [], none, 0, rfl, rfl, rfl, by omega, by omega, by simp, Lib.hid ⟨rfl, rfl, fun _ => rfl⟩, OwnL.nil _ _ _, Below.refl _ _⟩
  case round =>
    obtain ⟨i, m, ts, bs, A2, c2, rfl, rfl, rfl, hi2, hm, hbs, hh, hown, hbel⟩ := hrel
    obtain ⟨wo, hwo⟩ : ∃ wo, wo = wr := ⟨_, rfl⟩
    subst hwo
    by_cases hlt : i < l.length
    · obtain ⟨n, hn, hd⟩ := drop_step hlt
      obtain ⟨g0, off0, hA0, hgb0, hc0⟩ := (hr.below hbel (Nat.le_refl _)).at_S hn
      have c2w := hbx wo hbel
      have htk : l.take (i + 1) = l.take i ++ [n] := by rw [List.take_add_one, hn]; rfl
      have hmem := List.mem_of_getElem? hn
      have Hk := Lib.hid hk
      rcases hk wo hbel n with ⟨hlk, hno⟩ | ⟨g, t, ht5, bxg, hso, hlk⟩
      · have Hg := Lib.hid (show ([], 4) = G from by rw [← HG.out, getE, getT_none hmem hno])
        subst hA0
        clear hn hd htk hmem hno hk hbx
        go_wp2_with fail
        go_ret2
        have h1 := congrArg Prod.fst Hg.out
        have h2 := congrArg Prod.snd Hg.out
        simp only at h1 h2
        exact ⟨by rw [← h1, ← h2]; rfl, hbel⟩
      · have Hn := Lib.hid (show getT look (l.take (i + 1)) = some (ts ++ [t]) from by rw [htk, getT_snoc, hh.out.1, hso]; rfl)
        have hsum : m + t.length = sumT (ts ++ [t]) := by rw [hh.out.2.1, sumT_append]; simp [sumT]
        have Hsum := Lib.hid hsum
        have q0 := bxg.cell (j := 0) rfl
        have hm2 : m + t.length ≤ 5000 * (i + 1) := by omega
        subst hA0
        clear hn hd htk hmem hso hk hbx hsum
        by_cases hfit : m + t.length ≤ 5000
        · have hfitI : (m : Int) + (t.length : Int) ≤ 5000 := by omega
          have Hbs := Lib.hid (show bs ++ t = (ts ++ [t]).flatten from by rw [hh.out.2.2 (by omega)]; simp)
          have hbl2 : bs.length + t.length ≤ 5000 := by
            have h1 := congrArg List.length (hh.out.2.2 (by omega))
            have h2 : ts.flatten.length = sumT ts := by simp [sumT, List.length_flatten]
            have h3 := hh.out.2.1
            omega
          go_wp2_with (at_builtin; refine wpList_app_str Tryd.underlying60 Tryd.underlying9 info_u8P rfl _ _ rfl rfl hown t rfl (by omega) hbel.size ?_; intro A3 c3 w3 hown3 hg3 hb3)
          go_roundw
          case rel => exact ⟨i + 1, m + t.length, ts ++ [t], bs ++ t, A3, c3, by go_num, by go_num, by simp, by omega, hm2, by rw [List.length_append]; exact hbl2, Lib.hid ⟨Hn.out, Hsum.out, fun _ => Hbs.out⟩, hown3, hbel.trans hb3⟩
          case measure => simp [intOf]; omega
        · have hfitI : ¬ (m : Int) + (t.length : Int) ≤ 5000 := by omega
          go_wp2_with fail
          go_roundw
          case rel => exact ⟨i + 1, m + t.length, ts ++ [t], bs, A2, c2, by go_num, by go_num, rfl, by omega, hm2, hbs, Lib.hid ⟨Hn.out, Hsum.out, fun hc => absurd hc hfit⟩, hown, hbel⟩
          case measure => simp [intOf]; omega
    · have hall : getT look l = some ts := by have := hh.out.1; rwa [List.take_of_length_le (by omega)] at this
      have hmt := hh.out.2.1
      by_cases hbig : 5000 < m
      · have Hg := Lib.hid (show ([], 2) = G from by rw [← HG.out, getE, hall]; simp only; rw [if_pos (by omega)])
        have hbigI : (5000 : Int) < (m : Int) := by omega
        clear hall hmt hk hbx
        go_wp2_with fail
        go_ret2
        have h1 := congrArg Prod.fst Hg.out
        have h2 := congrArg Prod.snd Hg.out
        simp only at h1 h2
        exact ⟨by rw [← h1, ← h2]; rfl, hbel⟩
      · have Hg := Lib.hid (show (bs, 0) = G from by rw [← HG.out, getE, hall]; simp only; rw [if_neg (by omega), hh.out.2.2 (by omega)])
        have hbigI : ¬ (5000 : Int) < (m : Int) := by omega
        have hcv : (convert 60 9 (.slice A2 bs.length c2)).run Tryd.prog wo = .ok (S bs) wo := run_bytes_str (P := Tryd.prog) 60 9 Tryd.underlying60 Tryd.underlying5 Tryd.underlying9 hown.read c2
        clear hall hmt hk hbx
        go_wp2_with fail
        go_ret2
        have h1 := congrArg Prod.fst Hg.out
        have h2 := congrArg Prod.snd Hg.out
        simp only at h1 h2
        exact ⟨by rw [← h1, ← h2]; rfl, hbel⟩
end Go.Proofs.YtbchkaoocobpfaaDoor
