/- Walk: piles: a text put. -/
import Derived.Test.YtbchkaoocobpfaaDoorWPl1
import Derived.Deep.QuietTactic
import Derived.BigQuiet
namespace Go.Larder
theorem frGo_step {nm : Txt → Txt} {B F r : List Txt} {t : Txt} :
    frGo nm B F (t :: r) = match lookT nm (B ++ F) (nm t) with | some u => if u = t then frGo nm B F r else none | none => frGo nm B (F ++ [t]) r := rfl
theorem lookT_app {nm : Txt → Txt} {a b : List Txt} {n : Txt} : lookT nm (a ++ b) n = (lookT nm a n).or (lookT nm b n) := by
  unfold lookT
  rw [List.find?_append]
theorem sum_mem {l : List Txt} {t : Txt} (h : t ∈ l) : t.length ≤ sumT l := by
  induction l with
  | nil => cases h
  | cons x l ih =>
    rw [sumT_cons]
    rcases List.mem_cons.1 h with rfl | h
    · omega
    · have := ih h; omega
theorem sum_take (l : List Txt) (i : Nat) : sumT (l.take i) ≤ sumT l := by
  have : sumT l = sumT (l.take i) + sumT (l.drop i) := by rw [← sumT_append, List.take_append_drop]
  omega
theorem sum_flat (l : List Txt) : l.flatten.length = sumT l := by simp [sumT, List.length_flatten]
def mapF (nm : Txt → Txt) (F : List Txt) : List (Txt × Value) := F.map fun t => (nm t, S t)
theorem getM_mapF {nm : Txt → Txt} : ∀ {F : List Txt} {n : Txt}, getM (mapF nm F) n = (lookT nm F n).map S
  | [], n => rfl
  | t :: F, n => by
    by_cases h : nm t = n
    · have h1 : getM (mapF nm (t :: F)) n = some (S t) := by simp [mapF, getM, h]
      have h2 : lookT nm (t :: F) n = some t := by simp [lookT, h]
      rw [h1, h2]; rfl
    · have h0 : ¬ n = nm t := fun e => h e.symm
      have h1 : getM (mapF nm (t :: F)) n = getM (mapF nm F) n := by
        show getM ((nm t, S t) :: mapF nm F) n = _
        rw [getM, if_neg h0]
      have h2 : lookT nm (t :: F) n = lookT nm F n := by simp [lookT, h]
      rw [h1, h2, getM_mapF]
theorem putM_mapF {nm : Txt → Txt} {F : List Txt} {t : Txt} (h : lookT nm F (nm t) = none) : putM (mapF nm F) (nm t) (S t) = mapF nm (F ++ [t]) := by
  have h1 : getM (mapF nm F) (nm t) = none := by rw [getM_mapF, h]; rfl
  rw [getM_idx] at h1
  rw [putM_new (by simpa using h1)]
  simp [mapF]
end Go.Larder
namespace Go.Proofs.YtbchkaoocobpfaaDoor
open Go.RowKit Go.Larder
set_option linter.unusedVariables false
set_option linter.unusedSimpArgs false
variable {w w' : World} {b gm room u : Nat} {E : List (Nat × Txt)} {cnt : Txt → Nat} {all : List Txt}
theorem sl_strP : SlT Tryd.prog 22 9 1 16 := SlT.mk' (z := .string ByteArray.empty) Tryd.underlying22 (by kernel_rfl) rfl
/-- between two rounds of the first loop -/
structure PutJ (w : World) (N : Nat) (B cs : List Txt) (i : Nat) (F : List Txt) (gf : Nat) (A2 : Option Addr) (c2 m : Nat) (wr : World) : Prop where
  fr : frGo nmT B [] cs = frGo nmT B F (cs.drop i)
  nd : (B ++ F).Nodup
  inj : InjT nmT (B ++ F)
  map : MapAt wr gf (mapF nmT F)
  nms : OwnL encS wr N 9 A2 c2 ((cs.take i).map nmT)
  sum : sumT F = m
  le : m ≤ sumT (cs.take i)
  fl : F.length ≤ i
  bel : Below w.heap.size w wr
  gf1 : w.heap.size ≤ gf
theorem lookF (w : World) : (zeroValue 9).run Tryd.prog w = .ok (S []) w := by kernel_rfl
/-- a text asked for among the new ones -/
theorem look_fresh {wr : World} {gf : Nat} {F : List Txt} (h : MapAt wr gf (mapF nmT F)) (n : Txt) :
    (Instr.lookup 86 (.map (some gf)) (S n) true).run Tryd.prog wr = .ok (.tuple #[S ((lookT nmT F n).getD []), .bool (lookT nmT F n).isSome]) wr := by
  cases h2 : lookT nmT F n with
  | none => exact run_lookup_none (P := Tryd.prog) Tryd.underlying86 Tryd.underlying9 h n true (lookF wr) (by rw [getM_mapF, h2]; rfl)
  | some t => exact run_lookup_S (P := Tryd.prog) (i := 0) Tryd.underlying86 Tryd.underlying9 h n true (by rw [getM_mapF, h2]; rfl)
theorem beq_neP {a b : Txt} (h : ¬ a = b) : (a == b) = false := by simpa using h
theorem own_ne_map {α : Type} {En : ElemT α} {w : World} {base c g : Nat} {e : TypeId} {A : Option Addr} {l : List α} {m : List (Txt × Value)} (h : OwnL En w base e A c l) (hm : MapAt w g m) : ∀ a, A = some a → a.block ≠ g := by
  intro a ha e1
  obtain ⟨cur, h1⟩ := h.type_ ha
  obtain ⟨es, c, h2, _⟩ := hm
  rw [e1, h2] at h1
  cases h1
theorem MapAt.grn {w w' : World} {g : Nat} {A : Option Addr} {m : List (Txt × Value)} (h : MapAt w g m) (hg : w.grownBy w' (blkOf A)) (hne : ∀ a, A = some a → a.block ≠ g) : MapAt w' g m :=
  h.same (hg.block g h.lt (by
    cases A with
    | none => simp [blkOf]
    | some a => intro e; injection e with e; exact hne a rfl e.symm))
/-- the pile behind a call -/
def PileP (w : World) (b gm room : Nat) (E : List (Nat × Txt)) (all' : List Txt) (w' : World) : Prop :=
  ∃ E' cnt', PileAt w' b gm room (sumT (E'.map (·.2))) E' cnt' ∧ PR nmT all' E' cnt' ∧ SameBut (FPl b gm E) w w' ∧ ∀ j, FPl b gm E' j → FPl b gm E j ∨ w.heap.size ≤ j
/-- what put leaves -/
def PutO (w : World) (b gm room : Nat) (E : List (Nat × Txt)) (all cs : List Txt) (G : Int) (e : Ending) (w' : World) : Prop :=
  ∃ names A c, e = .returned (.tuple #[.slice A names.length c, .int .i64 G]) ∧ OwnL encS w' w.heap.size 9 A c names ∧ (G = 0 → names = cs.map nmT) ∧ (G ≠ 0 → names = []) ∧ PileP w b gm room E (if G = 0 then all ++ cs else all) w'
theorem PutO.err {cs : List Txt} {G : Int} (hG : G ≠ 0) (h : PileAt w b gm room (sumT (E.map (·.2))) E cnt) (hp : PR nmT all E cnt) (hb : Below w.heap.size w w') : PutO w b gm room E all cs G (.returned (.tuple #[.slice none 0 0, .int .i64 G])) w' :=
  ⟨[], none, 0, rfl, OwnL.nil _ _ _, fun h0 => absurd h0 hG, fun _ => rfl, E, cnt, h.keep hb, by rw [if_neg hG]; exact hp, (Larder.Below.same hb).mono (fun j hj h2 => absurd h2 (by omega)), fun j hj => .inl hj⟩
theorem putM_mapE {E : List (Nat × Txt)} {n : Txt} {g : Nat} {t : Txt} (hn : nmT t = n) (h : ∀ e ∈ E, nmT e.2 ≠ n) : putM (mapE nmT E) n (pgP g) = mapE nmT (E ++ [(g, t)]) := by
  have h1 : getM (mapE nmT E) n = none := by
    rcases getM_mapE (nm := nmT) (E := E) (n := n) with ⟨h2, _⟩ | ⟨e, he, h2, _⟩
    · exact h2
    · exact absurd h2 (h e he)
  rw [getM_idx] at h1
  rw [putM_new (by simpa using h1)]
  simp [mapE, hn]
theorem PileAt.setCnt {e : Nat × Txt} (h : PileAt w b gm room u E cnt) (he : e ∈ E) (hnd : (E.map (·.2)).Nodup) (v : Nat) : PileAt (w.setCell ⟨e.1, 1, none⟩ (.int .i64 (v : Int))) b gm room u E (fun x => if x = e.2 then v else cnt x) := by
  refine ⟨h.box.setOther _ (fun e1 : b = e.1 => h.bNe he e1.symm) _, h.map.setCell _ (h.gmNe2 he) _, fun x hx => ?_, h.nb⟩
  by_cases h1 : x.1 = e.1
  · have h2 : x = e := by
      have hi := (List.pairwise_map.1 h.nb)
      apply Classical.byContradiction
      intro hne
      rcases List.pairwise_iff_getElem.1 hi with hp
      obtain ⟨i, hi1, hi2⟩ := List.getElem_of_mem hx
      obtain ⟨j, hj1, hj2⟩ := List.getElem_of_mem he
      rcases Nat.lt_trichotomy i j with hlt | heq | hlt
      · exact hp i j hi1 hj1 hlt (by rw [hi2, hj2]; exact h1)
      · subst heq; exact hne (hi2.symm.trans hj2)
      · exact hp j i hj1 hi1 hlt (by rw [hi2, hj2]; exact h1.symm)
    subst h2
    rw [if_pos rfl]
    exact (h.pcs x hx).set 1 (.int .i64 (v : Int))
  · have h2 : x.2 ≠ e.2 := by
      intro h2
      have hi := (List.pairwise_map.1 hnd)
      rcases List.pairwise_iff_getElem.1 hi with hp
      obtain ⟨i, hi1, hi2⟩ := List.getElem_of_mem hx
      obtain ⟨j, hj1, hj2⟩ := List.getElem_of_mem he
      rcases Nat.lt_trichotomy i j with hlt | heq | hlt
      · exact hp i j hi1 hj1 hlt (by rw [hi2, hj2]; exact h2)
      · subst heq; exact h1 (by rw [← hi2, ← hj2])
      · exact hp j i hj1 hi1 hlt (by rw [hi2, hj2]; exact h2.symm)
    rw [if_neg h2]
    exact (h.pcs x hx).setOther _ h1 _
/-- between two rounds of the second loop -/
structure PutK (w : World) (b gm room u gf r N : Nat) (E : List (Nat × Txt)) (all F : List Txt) (A2 : Option Addr) (c2 : Nat) (nms : List Txt) (G : List (Nat × Txt)) (todo : List (Txt × Value)) (wr : World) : Prop where
  rng : RngM wr gf r (mapF nmT F) todo
  pile : PileAt wr b gm room u (E ++ G) (fun t => all.count t)
  sub : ∀ p ∈ todo, ∃ t ∈ F, p = (nmT t, S t)
  kn : (keysM todo).Nodup
  mem : ∀ t, t ∈ G.map (·.2) ↔ t ∈ F ∧ nmT t ∉ keysM todo
  nd : ((E ++ G).map (·.2)).Nodup
  nms : OwnL encS wr N 9 A2 c2 nms
  nw : ∀ x ∈ G.map (·.1), r < x
  same : SameBut (FPl b gm E) w wr
theorem PileAt.cong {cnt' : Txt → Nat} (h : PileAt w b gm room u E cnt) (hc : ∀ t ∈ E.map (·.2), cnt t = cnt' t) : PileAt w b gm room u E cnt' :=
  ⟨h.box, h.map, fun e he => by rw [← hc e.2 (List.mem_map.2 ⟨e, he, rfl⟩)]; exact h.pcs e he, h.nb⟩
theorem PileAt.drewN (h : PileAt w b gm room u E cnt) (n : Nat) : PileAt (w.drewN n) b gm room u E cnt := ⟨h.box, h.map, h.pcs, h.nb⟩
theorem PileAt.setU (h : PileAt w b gm room u E cnt) (v : Nat) : PileAt (w.setCell ⟨b, 1, none⟩ (.int .i64 (v : Int))) b gm room v E cnt :=
  ⟨h.box.set 1 (.int .i64 (v : Int)), h.map.setCell _ h.gmNe _, fun e he => (h.pcs e he).setOther _ (h.bNe he) _, h.nb⟩
set_option maxHeartbeats 8000000 in
set_option maxRecDepth 100000 in
theorem w_PPut1 (s : Txt) (hs : s.length ≤ 5000) (hrm : room ≤ 1000000) (hall : all.length ≤ 2000000) (G : Int) (hp : PR nmT all E cnt) (h : PileAt w b gm room (sumT (E.map (·.2))) E cnt) (hu : sumT (E.map (·.2)) ≤ room) (hEl : E.length ≤ 10000)
    (hG9 : frGo nmT (E.map (·.2)) [] (cutC s) = none → G = 9)
    (hG6 : ∀ F, frGo nmT (E.map (·.2)) [] (cutC s) = some F → room < sumT (E.map (·.2)) + sumT F ∨ 10000 < E.length + F.length → G = 6)
    (hG0 : ∀ F, frGo nmT (E.map (·.2)) [] (cutC s) = some F → ¬ (room < sumT (E.map (·.2)) + sumT F ∨ 10000 < E.length + F.length) → G = 0) :
    Calls Tryd.prog 16 #[pgP b, S s] w (PutO w b gm room E all (cutC s) G) := by
  have hcut := w_CCut s (by omega)
  have hsum : sumT (cutC s) = s.length := by rw [← sum_flat, cutC_flat]
  have hcn := cutC_cnt s
  obtain ⟨cs, hcs⟩ : ∃ cs, cutC s = cs := ⟨_, rfl⟩
  rw [hcs] at hcut hsum hcn hG9 hG6 hG0 ⊢
  clear hcs
  have hcl : cs.length ≤ 400 := by omega
  have hs5 : sumT cs ≤ 5000 := by omega
  clear hcn hsum
  have hnm : ∀ (W : World) (t : Txt), t ∈ cs → Calls Tryd.prog 10 #[S t] W fun e w' => e = .returned (S (digL t)) ∧ Below W.heap.size W w' := fun W t ht => w_DSum t (by have := sum_mem ht; omega) W
  have hhx : ∀ (W : World) (t : Txt), t ∈ cs → Calls Tryd.prog 11 #[S (digL t)] W fun e w' => e = .returned (S (nmT t)) ∧ Below W.heap.size W w' := fun W t ht => w_DHex (digL t) (by rw [digL_len]; omega) W
  have hnd := hp.nd
  have hi : InjT nmT (E.map (·.2)) := hp.inj.sub fun t ht => (hp.mem t).1 ht
  obtain ⟨B, hB⟩ : ∃ B, E.map (·.2) = B := ⟨_, rfl⟩
  have hlk : ∀ W, Below w.heap.size w W → ∀ n, ((Instr.lookup 79 (.map (some gm)) (S n) false).run Tryd.prog W = .ok (.pointer none) W ∧ lookT nmT B n = none) ∨
      ∃ g t, BoxAt W g 90 [S t, .int .i64 (cnt t : Int)] ∧ lookT nmT B n = some t ∧ (Instr.lookup 79 (.map (some gm)) (S n) false).run Tryd.prog W = .ok (pgP g) W := by
    intro W hW n
    have h2 := h.keep hW
    rcases h2.look n with ⟨h3, h4⟩ | ⟨e, he, h3, h4⟩
    · refine .inl ⟨h3, ?_⟩
      rw [← hB]
      refine lookT_not fun t ht => ?_
      obtain ⟨e, he, rfl⟩ := List.mem_map.1 ht
      exact h4 e he
    · refine .inr ⟨e.1, e.2, h2.pcs e he, ?_, h4⟩
      rw [← hB]
      exact lookT_of hi (List.mem_map.2 ⟨e, he, rfl⟩) h3
  have hbx := fun W (hW : Below w.heap.size w W) => (h.keep hW).box
  have herr : ∀ G', G' ≠ 0 → G = G' → ∀ W, Below w.heap.size w W → PutO w b gm room E all cs G (.returned (.tuple #[.slice none 0 0, .int .i64 G'])) W := by
    rintro G' h0 rfl W hW
    exact PutO.err h0 h hp hW
  have hm0 := MapAt.made w
  have hmm := @run_makeMap Tryd.prog
  have hb0 := (Below.refl w.heap.size w).alloc (Nat.le_refl _) (.map #[] 0)
  have hcut0 := hcut (w.alloc (.map #[] 0))
  have hsz0 : (w.alloc (.map #[] 0)).heap.size = w.heap.size + 1 := by simp
  rw [hB] at hi hnd hG9 hG6 hG0 hu
  have HB := Lib.hid hB
  have HG9 := Lib.hid hG9
  have HG6 := Lib.hid hG6
  have HG0 := Lib.hid hG0
  have Hh := Lib.hid h
  have Hp := Lib.hid hp
  clear hB hcut hG9 hG6 hG0 h hp
  go_enter Tryd.func16, Tryd.ntmps16
  go_wp2_with fail
  generalize w.alloc (.map #[] 0) = w0 at *
  refine Calls.mono hcut0 ?_
  rintro e w1 ⟨A1, c1, rfl, how1, hb1⟩
  have hm1 := hm0.keep hb1
  have hB1 := hb0.trans (hb1.mono (by omega))
  have hgf : ∀ a, A1 = some a → a.block ≠ w.heap.size := fun a ha => by have := (how1.lt a ha).1; omega
  have hJ0 : PutJ w w1.heap.size B cs 0 [] w.heap.size none 0 0 w1 := ⟨by rw [List.drop_zero], by rw [List.append_nil]; exact hnd, by rw [List.append_nil]; exact hi, hm1, OwnL.nil _ _ _, rfl, Nat.zero_le _, Nat.le_refl _, hB1, Nat.le_refl _⟩
  go_wp2_with fail
  go_loopw [6, 8, 26] (fun n' m' i' wr => ∃ (i m : Nat) (F : List Txt) (A2 : Option Addr) (c2 : Nat), i' = .int .i64 i ∧ m' = .int .i64 m ∧ n' = .slice A2 ((cs.take i).map nmT).length c2 ∧ i ≤ cs.length ∧ PutJ w w1.heap.size B cs i F w.heap.size A2 c2 m wr ∧ SameBut (fun j => j = w.heap.size ∨ w1.heap.size ≤ j) w1 wr) (fun _ _ i' _ => cs.length - (intOf i').toNat)
  case atStart => exact ⟨0, 0, [], none, 0, rfl, rfl, rfl, by omega, hJ0, SameBut.refl _⟩
  case round =>
    clear hJ0 hm1 hB1
    obtain ⟨i, m, F, A2, c2, rfl, rfl, rfl, hi2, hj, hb2⟩ := hrel
    obtain ⟨wo, hwo⟩ : ∃ wo, wo = wr := ⟨_, rfl⟩
    subst hwo
    have how2 := hb2.own how1 (fun a ha h0 => by have h1 := hgf a ha; have h2 := (how1.lt a ha).2; rcases h0 with h0 | h0 <;> omega)
    by_cases hlt : i < cs.length
    · obtain ⟨t, ht, hd⟩ := drop_step hlt
      obtain ⟨g0, off0, hA0, hgb0, hc0⟩ := how2.read.at_S ht
      have hmem := List.mem_of_getElem? ht
      have hs1 := hnm wo t hmem
      have hs2 := fun W => hhx W t hmem
      have htk : (cs.take (i + 1)).map nmT = (cs.take i).map nmT ++ [nmT t] := by rw [List.take_add_one, ht]; simp
      have hsum : sumT (cs.take i) + t.length = sumT (cs.take (i + 1)) := by rw [List.take_add_one, ht, Option.toList_some, sumT_append]; simp [sumT]
      have hst := sum_take cs (i + 1)
      have hfr : frGo nmT B [] cs = match lookT nmT (B ++ F) (nmT t) with | some u => if u = t then frGo nmT B F (cs.drop (i + 1)) else none | none => frGo nmT B (F ++ [t]) (cs.drop (i + 1)) := by
        rw [hj.fr, hd, frGo_step]
      rw [lookT_app] at hfr
      have hll : ((cs.take i).map nmT).length = i := by rw [List.length_map, List.length_take]; omega
      obtain ⟨L, hL⟩ : ∃ L, (cs.take i).map nmT = L := ⟨_, rfl⟩
      have hnms := hj.nms
      have hmap := hj.map
      have hbel := hj.bel
      have Hj := Lib.hid hj
      rw [hL] at hnms htk hll ⊢
      have Htk := Lib.hid htk
      have Hfr := Lib.hid hfr
      have Hsum := Lib.hid (And.intro hsum hst)
      have Hll := Lib.hid hll
      have hLl : L.length ≤ 400 := by omega
      have hm5 : m + t.length ≤ 5000 := by have := hj.le; omega
      have Hmem := Lib.hid hmem
      subst hA0
      clear hj ht hd hL htk hfr hsum hst hmem hll hnm hhx
      have Hlk := Lib.hid hlk
      have Hbx := Lib.hid hbx
      have Herr := Lib.hid herr
      clear hlk hbx herr
      go_upto_region 9 with (first
        | (go_at_call 10; refine hs1.mono ?_; rintro e w2 ⟨rfl, hb3⟩)
        | (go_at_call 11; refine (hs2 _).mono ?_; rintro e w3 ⟨rfl, hb4⟩))
      have hb34 := hb3.trans (hb4.mono hb3.size)
      have hnms3 := hnms.below hb34 (Nat.le_refl _)
      have hmap3 := hmap.keep hb34
      have hbel3 := hbel.trans (hb34.mono hbel.size)
      have hno3 := own_ne_map hnms3 hmap3
      have hbs3 := hbel3.size
      have hn1 := hb34.size
      have hn2 := hb2.size
      have hN1 : w1.heap.size ≤ w3.heap.size := by omega
      generalize hN : nmT t = nt at *
      clear hs1 hs2 hb3 hb4 hnms hmap hbel
      go_upto_region 10 with (at_builtin; refine wpList_app encS sl_strP [nt] rfl _ _ rfl rfl hnms3 #[S nt] rfl 0 rfl rfl (by omega) (by simp only [maxLen]; omega) hN1 ?_; intro g4 c4 w4 hown4 hg4 hb4 hbg4)
      have hmap4 := MapAt.grn hmap3 (by rw [← ownBlock_blk A2 L.length c2]; exact hg4) hno3
      have hw1s := hb1.size
      have hbel4 : Below w.heap.size w w4 := hbel3.trans (hb4.mono (by omega))
      have hlf := look_fresh hmap4 nt
      have hc4 := (Hbx.out w4 hbel4).cell (j := 2) rfl
      have hsb4 : SameBut (fun j => j = w.heap.size ∨ w1.heap.size ≤ j) w1 w4 := ((hb2.keep hb34).below hb4 (fun j hj h0 => .inr h0))
      have hlk4 := Hlk.out w4 hbel4 nt
      rcases hlk4 with ⟨hl1, hl2⟩ | ⟨g, x, bxg, hl2, hl1⟩
      · cases hF : lookT nmT F nt with
        | some f =>
          rw [hF] at hlf
          simp only [Option.getD_some, Option.isSome_some] at hlf
          by_cases hft : f = t
          · subst hft
            have hE : (f == f) = true := by simp
            have Hfr2 := Lib.hid (show frGo nmT B [] cs = frGo nmT B F (cs.drop (i + 1)) from by
              have h0 := Hfr.out
              rw [hl2, hF] at h0
              simpa using h0)
            clear hl2 hF
            go_wp2_with fail
            go_roundw
            case rel => exact ⟨i + 1, m, F, some ⟨g4, 0, none⟩, c4, by go_num, rfl, by rw [Htk.out]; simp, by omega, ⟨Hfr2.out, Hj.out.nd, Hj.out.inj, hmap4, by rw [Htk.out]; exact hown4, Hj.out.sum, by have := Hj.out.le; have := Hsum.out.1; omega, by have := Hj.out.fl; omega, hbel4, Nat.le_refl _⟩, hsb4⟩
            case measure => simp [intOf]; omega
          · have hE : (f == t) = false := beq_neP hft
            have H9 := Lib.hid (show G = 9 from HG9.out (by
              have h0 := Hfr.out
              rw [hl2, hF] at h0
              simpa [hft] using h0))
            clear hl2 hF hft
            go_wp2_with fail
            go_ret2
            exact Herr.out 9 (by decide) H9.out w4 hbel4
        | none =>
          rw [hF] at hlf
          simp only [Option.getD_none, Option.isSome_none] at hlf
          have Hfr2 := Lib.hid (show frGo nmT B [] cs = frGo nmT B (F ++ [t]) (cs.drop (i + 1)) from by
            have h0 := Hfr.out
            rw [hl2, hF] at h0
            exact h0)
          have Hput := Lib.hid (putM_mapF (nm := nmT) (F := F) (t := t) (by rw [hN]; exact hF))
          have Hno := Lib.hid (show ∀ u ∈ B ++ F, nmT u ≠ nt from fun u hu => by
            rcases List.mem_append.1 hu with hu | hu
            · exact lookT_none hl2 u hu
            · exact lookT_none hF u hu)
          clear hl2 hF
          go_wp2_with (at_mapUpdate; refine wpList_mapPut rfl _ _ _ rfl Tryd.underlying86 Tryd.underlying9 rfl hmap4 nt rfl (S t) rfl ?_; intro w5 hmap5 hs5)
          rw [← hN, Hput.out] at hmap5
          have hn5 : ∀ a, (some ⟨g4, 0, none⟩ : Option Addr) = some a → ¬ a.block = w.heap.size := fun a ha => by have := (hown4.lt a ha).1; omega
          have hown5 := hs5.own hown4 hn5
          have hnd5 : (B ++ (F ++ [t])).Nodup := by
            rw [← List.append_assoc]
            refine List.nodup_append.2 ⟨Hj.out.nd, by simp, ?_⟩
            intro a ha b hb
            simp only [List.mem_singleton] at hb
            subst hb
            rintro rfl
            exact Hno.out a ha hN
          have hinj5 : InjT nmT (B ++ (F ++ [t])) := by
            rw [← List.append_assoc]
            intro s1 h1 u1 h2 e
            rcases List.mem_append.1 h1 with k1 | k1 <;> rcases List.mem_append.1 h2 with k2 | k2
            · exact Hj.out.inj s1 k1 u1 k2 e
            · simp only [List.mem_singleton] at k2
              rw [k2, hN] at e
              exact absurd e (Hno.out s1 k1)
            · simp only [List.mem_singleton] at k1
              rw [k1, hN] at e
              exact absurd e.symm (Hno.out u1 k2)
            · simp only [List.mem_singleton] at k1 k2
              rw [k1, k2]
          have hsum5 : sumT (F ++ [t]) = m + t.length := by rw [sumT_append, Hj.out.sum]; simp [sumT]
          go_roundw
          case rel => exact ⟨i + 1, m + t.length, F ++ [t], some ⟨g4, 0, none⟩, c4, by go_num, by go_num, by rw [Htk.out]; simp, by omega, ⟨Hfr2.out, hnd5, hinj5, hmap5, by rw [Htk.out]; exact hown5, hsum5, by have := Hj.out.le; have := Hsum.out.1; omega, by have := Hj.out.fl; simp; omega, hbel4.trans (hs5.toBelow hbel4.size (fun j hj h0 => by omega)), Nat.le_refl _⟩, hsb4.trans hs5 (fun j hj h0 => .inl h0)⟩
          case measure => simp [intOf]; omega
      · have q0 := bxg.cell (j := 0) rfl
        have Hx := Lib.hid (show lookT nmT (B ++ F) nt = some x from by rw [lookT_app, hl2]; rfl)
        by_cases hxt : x = t
        · subst hxt
          have hE : (x == x) = true := by simp
          have Hfr2 := Lib.hid (show frGo nmT B [] cs = frGo nmT B F (cs.drop (i + 1)) from by
            have h0 := Hfr.out
            rw [hl2] at h0
            simpa using h0)
          clear hl2
          go_wp2_with fail
          go_roundw
          case rel => exact ⟨i + 1, m, F, some ⟨g4, 0, none⟩, c4, by go_num, rfl, by rw [Htk.out]; simp, by omega, ⟨Hfr2.out, Hj.out.nd, Hj.out.inj, hmap4, by rw [Htk.out]; exact hown4, Hj.out.sum, by have := Hj.out.le; have := Hsum.out.1; omega, by have := Hj.out.fl; omega, hbel4, Nat.le_refl _⟩, hsb4⟩
          case measure => simp [intOf]; omega
        · have hE : (x == t) = false := beq_neP hxt
          have H9 := Lib.hid (show G = 9 from HG9.out (by
            have h0 := Hfr.out
            rw [hl2] at h0
            simpa [hxt] using h0))
          clear hl2 hxt
          go_wp2_with fail
          go_ret2
          exact Herr.out 9 (by decide) H9.out w4 hbel4
    · obtain rfl : i = cs.length := by omega
      have hfrF : frGo nmT B [] cs = some F := by rw [hj.fr, List.drop_length]; rfl
      have hlE : B.length = E.length := by rw [← HB.out, List.length_map]
      have hbel := hj.bel
      have bxb := Hh.out.keep hbel
      have hmm5 := hj.le
      have hmF : m ≤ 5000 := by have := sum_take cs cs.length; omega
      have hFl : F.length ≤ 400 := by have := hj.fl; omega
      have f1b := bxb.box.free 1
      have c0 := bxb.box.cell (j := 0) rfl
      have c1b := bxb.box.cell (j := 1) rfl
      have c2b := bxb.box.cell (j := 2) rfl
      rw [HB.out] at c1b
      have hl1 := fun (k : Nat) (ty : TypeId) => Go.Larder.run_len_map (P := Tryd.prog) (w := wo.drewN k) Tryd.underlying79 bxb.map ty
      have hl2 := fun (k : Nat) (ty : TypeId) => Go.Larder.run_len_map (P := Tryd.prog) (w := wo.drewN k) Tryd.underlying86 hj.map ty
      rw [show (mapE nmT E).length = E.length from by simp [mapE]] at hl1
      rw [show (mapF nmT F).length = F.length from by simp [mapF]] at hl2
      obtain ⟨ub, hub⟩ : ∃ ub, sumT B = ub := ⟨_, rfl⟩
      rw [hub] at c1b hu
      have hw1 : IntKind.i64.wrap ((ub : Int) + (m : Int)) = (ub : Int) + (m : Int) := IntWalk.i64_in _ ⟨by omega, by omega⟩
      have hw2 : IntKind.i64.wrap ((E.length : Int) + (F.length : Int)) = (E.length : Int) + (F.length : Int) := IntWalk.i64_in _ ⟨by omega, by omega⟩
      have Hj := Lib.hid hj
      have Hub := Lib.hid hub
      have HfrF := Lib.hid hfrF
      have Hbxb := Lib.hid bxb
      have Hhow2 := Lib.hid how2
      have Hlk := Lib.hid hlk
      have Hbx := Lib.hid hbx
      have Herr := Lib.hid herr
      clear hj hub hfrF bxb how2 hlk hbx herr hnm hhx
      by_cases hbig1 : (room : Int) < (ub : Int) + (m : Int)
      · have H6 := Lib.hid (show G = 6 from HG6.out F HfrF.out (by
          have h1 := Hub.out
          have h2 := Hj.out.sum
          rw [HB.out] at *
          omega))
        go_wp2_with fail
        go_quiet (fail)
        go_wp2
        go_ret2
        exact Herr.out 6 (by decide) H6.out _ ⟨hbel.os, hbel.tape, hbel.output, hbel.size, hbel.block⟩
      · by_cases hbig2 : (10000 : Int) < (E.length : Int) + (F.length : Int)
        · have H6 := Lib.hid (show G = 6 from HG6.out F HfrF.out (.inr (by omega)))
          go_wp2_with fail
          go_quiet (fail)
          go_wp2
          go_ret2
          exact Herr.out 6 (by decide) H6.out _ ⟨hbel.os, hbel.tape, hbel.output, hbel.size, hbel.block⟩
        · have H0 := Lib.hid (show G = 0 from HG0.out F HfrF.out (by
            have h1 := Hub.out
            have h2 := Hj.out.sum
            omega))
          go_wp2_with fail
          go_quiet (fail)
          go_upto_region 23 with fail
          have hcast : (ub : Int) + (m : Int) = ((ub + m : Nat) : Int) := by omega
          rw [hcast]
          have hEu : E.map (·.2) = B := HB.out
          have hP5 := ((((Hbxb.out).drewN nq).setU (ub + m)).cong (cnt' := fun t => all.count t) (fun t ht => Hp.out.cnt t ((Hp.out.mem t).1 ht)))
          have hbN := Hh.out.box.lt
          have hF5 : MapAt ((wo.drewN nq).setCell ⟨b, 1, none⟩ (.int .i64 ((ub + m : Nat) : Int))) w.heap.size (mapF nmT F) := MapAt.setCell (show MapAt (wo.drewN nq) _ _ from Hj.out.map) _ (by show w.heap.size ≠ b; omega) _
          have hN5 : OwnL encS ((wo.drewN nq).setCell ⟨b, 1, none⟩ (.int .i64 ((ub + m : Nat) : Int))) w1.heap.size 9 A2 c2 (cs.map nmT) := by
            have h0 := Hj.out.nms
            rw [List.take_length] at h0
            refine (h0.drewN nq).keep fun a ha => heap_setCell_other _ _ _ _ ?_
            have := (h0.lt a ha).1
            have := hb1.size
            show a.block ≠ b
            omega
          have hS5 : SameBut (FPl b gm E) w ((wo.drewN nq).setCell ⟨b, 1, none⟩ (.int .i64 ((ub + m : Nat) : Int))) := by
            have h0 : Below w.heap.size w (wo.drewN nq) := ⟨hbel.os, hbel.tape, hbel.output, hbel.size, hbel.block⟩
            exact ((Larder.Below.same h0).mono (fun j hj h2 => absurd h2 (by omega))).setCell _ _ (fun _ => .inl rfl)
          have hW5 : w.heap.size ≤ ((wo.drewN nq).setCell ⟨b, 1, none⟩ (.int .i64 ((ub + m : Nat) : Int))).heap.size := by simpa using hbel.size
          generalize (wo.drewN nq).setCell ⟨b, 1, none⟩ (.int .i64 ((ub + m : Nat) : Int)) = w5 at *
          clear hw1 hw2 hl1 hl2 c0 c1b c2b f1b hbel
          go_wp2_with (first | (at_range; refine wpList_rangeM rfl _ rfl Tryd.underlying86 rfl hF5 ?_; intro w6 hrg6 hb6 hsz6) | fail)
          have hr5 : w.heap.size ≤ w5.heap.size := hW5
          have hA2r : ∀ a, A2 = some a → a.block < w5.heap.size := fun a ha => (hN5.lt a ha).2
          have hnBF := Hj.out.nd
          have hiBF := Hj.out.inj
          have hK0 : PutK w b gm room (ub + m) w.heap.size w5.heap.size w1.heap.size E all F A2 c2 (cs.map nmT) [] (mapF nmT F) w6 := by
            refine ⟨hrg6, by rw [List.append_nil]; exact hP5.keep hb6, fun p hp => ?_, hF5.nodup, fun t => ?_, by rw [List.append_nil, hEu]; exact (List.nodup_append.1 hnBF).1, hN5.below hb6 (Nat.le_refl _), fun x hx => by simp at hx, hS5.keep hb6⟩
            · obtain ⟨t, ht, rfl⟩ := List.mem_map.1 hp
              exact ⟨t, ht, rfl⟩
            · constructor
              · intro h; simp at h
              · rintro ⟨h1, h2⟩
                exact absurd (List.mem_map.2 ⟨(nmT t, S t), List.mem_map.2 ⟨t, h1, rfl⟩, rfl⟩) h2
          have HnBF := Lib.hid hnBF
          have HiBF := Lib.hid hiBF
          clear hP5 hF5 hN5 hS5 hrg6 hb6 hnBF hiBF
          go_frame
          go_loopw [105] (fun _ wr => ∃ (G' : List (Nat × Txt)) (todo : List (Txt × Value)), PutK w b gm room (ub + m) w.heap.size w5.heap.size w1.heap.size E all F A2 c2 (cs.map nmT) G' todo wr) (fun _ wr => wr.rangeLeft w.heap.size w5.heap.size)
          case atStart => exact ⟨[], _, hK0⟩
          case round =>
            clear hK0
            obtain ⟨G', todo, hk⟩ := hrel
            obtain ⟨wp, hwp⟩ : ∃ wp, wp = wr := ⟨_, rfl⟩
            subst hwp
            have hrng := hk.rng
            cases todo with
            | nil =>
              go_wp2_with (at_next; refine wpList_nextM rfl _ rfl rfl hrng (fun _ => ?_) (fun ta k v tb w7 htd => absurd htd (by simp)); go_frame)
              have hpl := hk.pile
              have hmemG : ∀ x, x ∈ (E ++ G').map (·.2) ↔ x ∈ B ++ F := fun x => by
                rw [List.map_append, List.mem_append, List.mem_append, hEu, hk.mem x]
                simp [keysM]
              have hsp := frGo_spec (nm := nmT) (B := B) (cs := cs) (F := []) (by rw [List.append_nil]; exact (List.nodup_append.1 HnBF.out).1) (by rw [List.append_nil]; exact HiBF.out.sub fun x hx => List.mem_append_left _ hx)
              have hBF : ∀ x, x ∈ B ++ F ↔ x ∈ B ++ cs := by
                rcases hsp with ⟨h1, _⟩ | ⟨F', h1, _, _, h4⟩
                · rw [HfrF.out] at h1; cases h1
                · rw [HfrF.out] at h1
                  injection h1 with h1
                  subst h1
                  intro x
                  have := h4 x
                  rwa [List.append_nil] at this
              have hnd2 := hk.nd
              have hnms := hk.nms
              have hsame := hk.same
              have hnw := hk.nw
              have hNr : ∀ a, A2 = some a → a.block < w5.heap.size := hA2r
              have hN1w : ∀ a, A2 = some a → w1.heap.size ≤ a.block := fun a ha => (hnms.lt a ha).1
              have hw1b := hb1.size
              have hinj2 : InjT nmT ((E ++ G').map (·.2)) := HiBF.out.sub fun x hx => (hmemG x).1 hx
              have hcsE : ∀ x ∈ cs, x ∈ (E ++ G').map (·.2) := fun x hx => (hmemG x).2 ((hBF x).2 (List.mem_append_right _ hx))
              have hfinal : ∀ W, PileAt W b gm room (ub + m) (E ++ G') (fun x => all.count x + cs.count x) → OwnL encS W w1.heap.size 9 A2 c2 (cs.map nmT) → SameBut (FPl b gm (E ++ G')) wp W →
                  PutO w b gm room E all cs G (.returned (.tuple #[.slice A2 (cs.map nmT).length c2, .int .i64 0])) W := by
                intro W h1 h2 h3
                have hFn : ∀ j, FPl b gm (E ++ G') j → FPl b gm E j ∨ w.heap.size ≤ j := by
                  rintro j (rfl | rfl | hj)
                  · exact .inl (.inl rfl)
                  · exact .inl (.inr (.inl rfl))
                  · rw [List.map_append, List.mem_append] at hj
                    rcases hj with hj | hj
                    · exact .inl (.inr (.inr hj))
                    · have := hnw j hj
                      exact .inr (by omega)
                have hus : sumT ((E ++ G').map (·.2)) = ub + m := by
                  have h4 := (same_sets hnd2 HnBF.out hmemG).1
                  rw [h4, sumT_append, Hub.out, Hj.out.sum]
                refine ⟨cs.map nmT, A2, c2, by rw [H0.out], h2.base_le (by omega), fun _ => rfl, fun h0 => absurd H0.out h0, E ++ G', _, by rw [hus]; exact h1, ?_, ?_, hFn⟩
                · rw [if_pos H0.out]
                  refine ⟨HiBF.out.sub fun x hx => (hBF x).2 ?_, fun x => ?_, hnd2, fun x _ => by rw [List.count_append]⟩
                  · rcases List.mem_append.1 hx with hx | hx
                    · exact List.mem_append_left _ (by rw [← hEu]; exact (Hp.out.mem x).2 hx)
                    · exact List.mem_append_right _ hx
                  · rw [hmemG x, hBF x, List.mem_append, List.mem_append, ← hEu, Hp.out.mem x]
                · refine (hsame.trans h3 (fun j hjw hj => ?_))
                  rcases hFn j hj with h5 | h5
                  · exact h5
                  · omega
              have Hfinal := Lib.hid hfinal
              have HmG := Lib.hid hmemG
              have HBF2 := Lib.hid hBF
              have Hinj2 := Lib.hid hinj2
              have HcsE := Lib.hid hcsE
              have Hnd2 := Lib.hid hnd2
              have hml : (cs.map nmT).length = cs.length := by simp
              clear hfinal hmemG hBF hsp hinj2 hcsE hnd2 hsame hnw hk
              go_wp2_with (at_next; refine wpList_nextM rfl _ rfl rfl hrng (fun _ => ?_) (fun ta k v tb w7 htd => absurd htd (by simp)); go_frame)
              go_loopw [120] (fun i' wr => ∃ (i : Nat), i' = .int .i64 i ∧ i ≤ cs.length ∧ PileAt wr b gm room (ub + m) (E ++ G') (fun x => all.count x + (cs.take i).count x) ∧ OwnL encS wr w1.heap.size 9 A2 c2 (cs.map nmT) ∧ SameBut (FPl b gm (E ++ G')) wp wr) (fun i' _ => cs.length - (intOf i').toNat)
              case atStart => exact ⟨0, rfl, by omega, hpl.cong (fun x _ => by simp), hnms, SameBut.refl _⟩
              case round =>
                clear hpl hnms hrng
                obtain ⟨i, rfl, hi3, hpl, hnms, hsm⟩ := hrel
                obtain ⟨wq, hwq⟩ : ∃ wq, wq = wr := ⟨_, rfl⟩
                subst hwq
                by_cases hlt : i < cs.length
                · obtain ⟨t, ht, hd⟩ := drop_step hlt
                  have htn : (cs.map nmT)[i]? = some (nmT t) := by rw [List.getElem?_map, ht]; rfl
                  obtain ⟨g0, off0, hA0, hgb0, hc0⟩ := hnms.read.at_S htn
                  have htE := HcsE.out t (List.mem_of_getElem? ht)
                  have htk : ∀ x, (cs.take (i + 1)).count x = (cs.take i).count x + (if x = t then 1 else 0) := fun x => by
                    rw [List.take_add_one, ht, Option.toList_some, List.count_append]
                    by_cases hx : x = t
                    · subst hx; simp
                    · have h0 : List.count x [t] = 0 := List.count_eq_zero.2 (by simpa using hx)
                      rw [if_neg hx, h0]
                  have hcl1 : (cs.take i).count t ≤ 400 := Nat.le_trans List.count_le_length (by rw [List.length_take]; omega)
                  have hcl2 : all.count t ≤ 2000000 := Nat.le_trans List.count_le_length hall
                  rcases hpl.look (nmT t) with ⟨hl1, hl2⟩ | ⟨e, he, hl2, hl1⟩
                  · exfalso
                    obtain ⟨e, he, e1⟩ := List.mem_map.1 htE
                    exact hl2 e he (by rw [e1])
                  · have het : e.2 = t := Hinj2.out e.2 (List.mem_map.2 ⟨e, he, rfl⟩) t htE hl2
                    have hpc := hpl.pcs e he
                    have q1 := hpc.cell (j := 1) rfl
                    have f1 := hpc.free 1
                    have c2b := hpl.box.cell (j := 2) rfl
                    simp only [het] at q1
                    have hset := hpl.setCnt he Hnd2.out (all.count t + (cs.take i).count t + 1)
                    have hpl2 : PileAt (wq.setCell ⟨e.1, 1, none⟩ (.int .i64 ((all.count t + (cs.take i).count t + 1 : Nat) : Int))) b gm room (ub + m) (E ++ G') (fun x => all.count x + (cs.take (i + 1)).count x) := hset.cong (fun x _ => by
                      rw [htk x, het]
                      by_cases hx : x = t
                      · subst hx; simp; omega
                      · simp [hx])
                    have hnms2 : OwnL encS (wq.setCell ⟨e.1, 1, none⟩ (.int .i64 ((all.count t + (cs.take i).count t + 1 : Nat) : Int))) w1.heap.size 9 A2 c2 (cs.map nmT) := hnms.keep fun a ha => heap_setCell_other _ _ _ _ (BoxAt.apart hnms hpc (by decide) a ha)
                    have hsm2 : SameBut (FPl b gm (E ++ G')) wp (wq.setCell ⟨e.1, 1, none⟩ (.int .i64 ((all.count t + (cs.take i).count t + 1 : Nat) : Int))) := hsm.setCell _ _ (fun _ => .inr (.inr (List.mem_map.2 ⟨e, he, rfl⟩)))
                    have hN : ((all.count t + (cs.take i).count t + 1 : Nat) : Int) = ((all.count t + (cs.take i).count t : Nat) : Int) + 1 := by omega
                    rw [hN] at hpl2 hnms2 hsm2
                    obtain ⟨kt, hkt⟩ : ∃ kt, all.count t + (cs.take i).count t = kt := ⟨_, rfl⟩
                    rw [hkt] at q1 hpl2 hnms2 hsm2
                    have hktl : kt ≤ 3000000 := by omega
                    obtain ⟨nt, hnt⟩ : ∃ nt, nmT t = nt := ⟨_, rfl⟩
                    rw [hnt] at hc0 hl1
                    obtain ⟨ge, hge⟩ : ∃ ge, e.1 = ge := ⟨_, rfl⟩
                    rw [hge] at q1 f1 hl1 hpl2 hnms2 hsm2
                    have Hpl2 := Lib.hid hpl2
                    have Hnms2 := Lib.hid hnms2
                    have Hsm2 := Lib.hid hsm2
                    subst hA0
                    clear ht hd htn htE htk hl2 het hpc hset hpl2 hnms2 hsm2 hN hkt hnt hge hcl1 hcl2 hpl hnms hsm he
                    go_wp2_with fail
                    go_roundw
                    case rel =>
                      first
                        | exact ⟨i + 1, by go_num, by omega, Hpl2.out, Hnms2.out, Hsm2.out⟩
                        | ((repeat apply Exists.intro); refine ⟨?_, rfl⟩; exact ⟨i + 1, by go_num, by omega, Hpl2.out, Hnms2.out, Hsm2.out⟩)
                    case measure => simp [intOf]; omega
                · obtain rfl : i = cs.length := by omega
                  rw [List.take_length] at hpl
                  have hf := Hfinal.out wq hpl hnms hsm
                  rw [hml] at hf
                  have Hf := Lib.hid hf
                  clear hf hpl hnms hsm
                  go_wp2_with fail
                  go_ret2
                  exact Hf.out
            | cons p td =>
              have Hk := Lib.hid hk
              have hpl := hk.pile
              clear hk
              go_upto_region 25 with (at_next; refine wpList_nextM rfl _ rfl rfl hrng (fun h0 => absurd h0 (by simp)) (fun ta k v tb w7 htd hrg7 hs7 hsz7 hen7 => ?_); go_frame)
              obtain ⟨t, htF, hkv⟩ := Hk.out.sub (k, v) (by rw [htd]; simp)
              obtain ⟨hk1, rfl⟩ : k = nmT t ∧ v = S t := by simpa using hkv
              have hkt : nmT t ∈ keysM (p :: td) := by rw [htd, ← hk1]; simp [keysM]
              have hnotE : ∀ e ∈ E ++ G', nmT e.2 ≠ nmT t := by
                intro e he e1
                rcases List.mem_append.1 he with he | he
                · have h1 : e.2 ∈ B := by rw [← hEu]; exact List.mem_map.2 ⟨e, he, rfl⟩
                  exact (List.nodup_append.1 HnBF.out).2.2 e.2 h1 t htF (HiBF.out e.2 (List.mem_append_left _ h1) t (List.mem_append_right _ htF) e1)
                · have h1 := ((Hk.out.mem e.2).1 (List.mem_map.2 ⟨e, he, rfl⟩)).2
                  rw [e1] at h1
                  exact h1 hkt
              have hEw : ∀ e ∈ E, e.1 < w.heap.size := fun e he => (Hh.out.pcs e he).lt
              have hgmw := Hh.out.map.lt
              have hbw := Hh.out.box.lt
              have hrn : ∀ j, FPl b gm (E ++ G') j → ¬ j = w5.heap.size := by
                rintro j (rfl | rfl | hj) e
                · omega
                · omega
                · obtain ⟨x, hx, rfl⟩ := List.mem_map.1 hj
                  rcases List.mem_append.1 hx with hx | hx
                  · have := hEw x hx; omega
                  · have := Hk.out.nw x.1 (List.mem_map.2 ⟨x, hx, rfl⟩); omega
              have hpl7 := hpl.but hs7 hrn
              have hrlt := hrg7.lt
              have hA7 := (Below.refl w7.heap.size w7).alloc (Nat.le_refl _) (.cells #[S t, .int .i64 0] 90)
              have hpl8 := hpl7.keep hA7
              have hrg8 := hrg7.keep hA7
              have bxn := BoxAt.new w7 [S t, .int .i64 0] 90
              have hown8 := (hs7.own Hk.out.nms (fun a ha e => by have := hA2r a ha; omega)).below hA7 (Nat.le_refl _)
              have hown8n := own_ne_map hown8 hpl8.map
              have c27 := hpl7.box.cell (j := 2) rfl
              have hsz8 : True := trivial
              have Hkv := Lib.hid (show p :: td = ta ++ (nmT t, S t) :: tb from by rw [htd, hk1])
              have Hk1 := Lib.hid hk1
              have HnE := Lib.hid hnotE
              have Hkt := Lib.hid hkt
              have HtF := Lib.hid htF
              have Hrn := Lib.hid hrn
              clear htd hnotE hkt htF hrn hkv hk1 hsz7 hsz8
              go_wp2_with (at_mapUpdate; refine wpList_mapPut rfl _ _ _ rfl Tryd.underlying79 Tryd.underlying9 rfl hpl8.map k rfl (pgP w7.heap.size) rfl ?_; intro w8 hm8 hs8)
              rw [Hk1.out, putM_mapE rfl HnE.out, List.append_assoc] at hm8
              have hta : t ∉ all := fun h0 => by
                have h1 : t ∈ B := by rw [← hEu]; exact (Hp.out.mem t).2 h0
                exact (List.nodup_append.1 HnBF.out).2.2 t h1 t HtF.out rfl
              have hrg9 : RngM w8 w.heap.size w5.heap.size (mapF nmT F) (ta ++ tb) := hrg8.but hs8 (by omega) (by omega)
              have hsub : ∀ x, x ∈ ta ++ tb → x ∈ p :: td := fun x hx => by
                rw [Hkv.out]
                rcases List.mem_append.1 hx with h | h
                · exact List.mem_append_left _ h
                · exact List.mem_append_right _ (List.mem_cons_of_mem _ h)
              have hkn : (keysM (ta ++ tb)).Nodup ∧ nmT t ∉ keysM (ta ++ tb) := by
                have h0 := Hk.out.kn
                rw [Hkv.out] at h0
                simp only [keysM, List.map_append, List.map_cons, List.nodup_append, List.nodup_cons, List.mem_cons, List.mem_append, not_or] at h0 ⊢
                obtain ⟨h1, ⟨h2, h3⟩, h4⟩ := h0
                exact ⟨⟨h1, h3, fun a ha b hb => h4 a ha b (.inr hb)⟩, fun h5 => h4 _ h5 _ (.inl rfl) rfl, h2⟩
              have hnew : PutK w b gm room (ub + m) w.heap.size w5.heap.size w1.heap.size E all F A2 c2 (cs.map nmT) (G' ++ [(w7.heap.size, t)]) (ta ++ tb) w8 := by
                refine ⟨hrg9, ⟨hs8.box hpl8.box (fun e => hpl8.gmNe e.symm), hm8, fun e he => ?_, ?_⟩, fun x hx => Hk.out.sub x (hsub x hx), hkn.1, fun x => ?_, ?_, hs8.own hown8 (fun a ha => hown8n a ha), fun x hx => ?_, ?_⟩
                · rw [← List.append_assoc] at he
                  rcases List.mem_append.1 he with he | he
                  · exact hs8.box (hpl8.pcs e he) (fun e1 => hpl8.gmNe2 he e1.symm)
                  · simp only [List.mem_singleton] at he
                    subst he
                    have h0 : all.count t = 0 := List.count_eq_zero.2 hta
                    simp only [h0]
                    exact hs8.box bxn (fun e1 => hpl8.map.box_ne bxn e1.symm)
                · rw [← List.append_assoc, List.map_append]
                  refine List.nodup_append.2 ⟨hpl8.nb, by simp, ?_⟩
                  intro x hx y hy e1
                  simp only [List.map_cons, List.map_nil, List.mem_singleton] at hy
                  subst hy
                  have h1 := hpl7.lt (j := x) (.inr (.inr hx))
                  omega
                · rw [List.map_append, List.mem_append]
                  simp only [List.map_cons, List.map_nil, List.mem_singleton]
                  constructor
                  · rintro (hx | rfl)
                    · obtain ⟨h1, h2⟩ := (Hk.out.mem x).1 hx
                      refine ⟨h1, fun h3 => h2 ?_⟩
                      obtain ⟨q, hq, e1⟩ := List.mem_map.1 h3
                      exact List.mem_map.2 ⟨q, hsub q hq, e1⟩
                    · exact ⟨HtF.out, hkn.2⟩
                  · rintro ⟨h1, h2⟩
                    by_cases h3 : nmT x = nmT t
                    · exact .inr (HiBF.out x (List.mem_append_right _ h1) t (List.mem_append_right _ HtF.out) h3)
                    · refine .inl ((Hk.out.mem x).2 ⟨h1, fun h4 => h2 ?_⟩)
                      rw [Hkv.out] at h4
                      simp only [keysM, List.map_append, List.map_cons, List.mem_append, List.mem_cons] at h4 ⊢
                      rcases h4 with h4 | h4 | h4
                      · exact .inl h4
                      · exact absurd h4 h3
                      · exact .inr h4
                · rw [← List.append_assoc, List.map_append]
                  refine List.nodup_append.2 ⟨Hk.out.nd, by simp, ?_⟩
                  intro x hx y hy e1
                  simp only [List.map_cons, List.map_nil, List.mem_singleton] at hy
                  subst hy
                  obtain ⟨e, he, rfl⟩ := List.mem_map.1 hx
                  exact HnE.out e he (by rw [e1])
                · rw [List.map_append, List.mem_append] at hx
                  rcases hx with hx | hx
                  · exact Hk.out.nw x hx
                  · simp only [List.map_cons, List.map_nil, List.mem_singleton] at hx
                    omega
                · exact ((Hk.out.same.trans hs7 (fun j hj e => by omega)).keep hA7).trans hs8 (fun j hj e => .inr (.inl e))
              have hl9 := hrg9.left
              have hl0 := hrng.left
              have hll9 : (ta ++ tb).length < (p :: td).length := by rw [Hkv.out]; simp
              go_roundw
              case rel =>
                first
                  | exact ⟨_, _, hnew⟩
                  | ((repeat apply Exists.intro); refine ⟨?_, rfl⟩; exact ⟨_, _, hnew⟩)
              case measure =>
                rw [hl9, hl0]
                exact hll9
end Go.Proofs.YtbchkaoocobpfaaDoor
