/- Walk: piles: a text dropped. -/
import Derived.Test.YtbchkaoocobpfaaDoorWPl2
namespace Go.Larder
theorem find_mapE {nm : Txt → Txt} {n : Txt} : ∀ {E : List (Nat × Txt)} {e : Nat × Txt}, e ∈ E → nm e.2 = n → (E.map fun x => nm x.2).Nodup → ∃ a b, E = a ++ e :: b ∧ delM (mapE nm E) n = mapE nm (a ++ b)
  | x :: E, e, he, hn, hnd => by
    have hnd' := List.nodup_cons.1 hnd
    by_cases hx : x = e
    · subst hx
      refine ⟨[], E, rfl, ?_⟩
      show delM ((nm x.2, pgP x.1) :: mapE nm E) n = _
      rw [delM, if_pos hn.symm]
      rfl
    · have he' : e ∈ E := (List.mem_cons.1 he).resolve_left fun h => hx h.symm
      obtain ⟨a, b, h1, h2⟩ := find_mapE he' hn hnd'.2
      have hne : ¬ n = nm x.2 := fun h => hnd'.1 (List.mem_map.2 ⟨e, he', hn.trans h⟩)
      refine ⟨x :: a, b, by rw [h1]; rfl, ?_⟩
      show delM ((nm x.2, pgP x.1) :: mapE nm E) n = _
      rw [delM, if_neg hne, h2]
      rfl
theorem keys_mapE {nm : Txt → Txt} (E : List (Nat × Txt)) : keysM (mapE nm E) = E.map fun x => nm x.2 := by simp [keysM, mapE]
end Go.Larder
namespace Go.Proofs.YtbchkaoocobpfaaDoor
open Go.RowKit Go.Larder
set_option linter.unusedVariables false
set_option linter.unusedSimpArgs false
variable {w w' : World} {b gm room u : Nat} {E : List (Nat × Txt)} {cnt : Txt → Nat} {all l : List Txt}
/-- what drop leaves -/
def DropPl (w : World) (b gm room : Nat) (E : List (Nat × Txt)) (all l : List Txt) (e : Ending) (w' : World) : Prop :=
  (¬ DropOk nmT all l ∧ e = .returned (.int .i64 4) ∧ Below w.heap.size w w') ∨
  (DropOk nmT all l ∧ e = .returned (.int .i64 0) ∧ ∀ all', (∀ t ∈ all', t ∈ all) → (∀ t ∈ all, all'.count t = all.count t - l.count (nmT t)) → PileP w b gm room E all' w')
/-- how often each name stands there -/
def OftM (m : List (Txt × Value)) (l : List Txt) : Prop := ∀ n, getM m n = if n ∈ l then some (.int .i64 (l.count n : Int)) else none
theorem look_oft {wr : World} {g : Nat} {m : List (Txt × Value)} {l : List Txt} (h : MapAt wr g m) (ho : OftM m l) (n : Txt) :
    (Instr.lookup 92 (.map (some g)) (S n) false).run Tryd.prog wr = .ok (.int .i64 (l.count n : Int)) wr := by
  by_cases hn : n ∈ l
  · exact run_lookup_S (P := Tryd.prog) (i := 0) Tryd.underlying92 Tryd.underlying9 h n false (by rw [ho n, if_pos hn])
  · have h0 : l.count n = 0 := List.count_eq_zero.2 hn
    have hz : (zeroValue 3).run Tryd.prog wr = .ok (.int .i64 0) wr := by kernel_rfl
    have := run_lookup_none (P := Tryd.prog) Tryd.underlying92 Tryd.underlying9 h n false hz (by rw [ho n, if_neg hn])
    rw [h0]
    exact this
/-- between two rounds of the last loop -/
structure DrpJ (w : World) (b gm room go r : Nat) (E : List (Nat × Txt)) (all l : List Txt) (m : List (Txt × Value)) (E' : List (Nat × Txt)) (cnt' : Txt → Nat) (todo : List (Txt × Value)) (wr : World) : Prop where
  rng : RngM wr go r m todo
  pile : PileAt wr b gm room (sumT (E'.map (·.2))) E' cnt'
  cnt : ∀ t ∈ all, cnt' t = if nmT t ∈ keysM todo then all.count t else all.count t - l.count (nmT t)
  mem : ∀ t, t ∈ E'.map (·.2) ↔ t ∈ all ∧ 0 < cnt' t
  nd : (E'.map (·.2)).Nodup
  sub : ∀ e ∈ E', e ∈ E
  tsub : ∀ p ∈ todo, p ∈ m
  kn : (keysM todo).Nodup
  same : SameBut (FPl b gm E) w wr
theorem beqI {a b : Int} (h : ¬ a = b) : (a == b) = false := by simpa using h
set_option maxHeartbeats 8000000 in
set_option maxRecDepth 100000 in
theorem w_PDrop (hl : l.length ≤ 1048576) (A : Option Addr) (c : Nat) (hr : ReadL encS w w.heap.size A l) (hall : all.length ≤ 2000000) (hrm : room ≤ 1000000) (hu : sumT (E.map (·.2)) ≤ room) (hp : PR nmT all E cnt) (h : PileAt w b gm room (sumT (E.map (·.2))) E cnt) :
    Calls Tryd.prog 19 #[pgP b, .slice A l.length c] w (DropPl w b gm room E all l) := by
  have hm0 := MapAt.made w
  have hmm := @run_makeMap Tryd.prog
  have hb0 := (Below.refl w.heap.size w).alloc (Nat.le_refl _) (.map #[] 0)
  have Hh := Lib.hid h
  have Hp := Lib.hid hp
  have hbx := fun W (hW : Below w.heap.size w W) => (h.keep hW)
  have Hbx := Lib.hid hbx
  clear h hp hbx
  go_enter Tryd.func19, Tryd.ntmps19
  go_wp2_with fail
  generalize w.alloc (.map #[] 0) = w0 at *
  go_loopw [17] (fun i' wr => ∃ (i : Nat) (m : List (Txt × Value)), i' = .int .i64 i ∧ i ≤ l.length ∧ MapAt wr w.heap.size m ∧ Hid (OftM m (l.take i)) ∧ Below w.heap.size w wr) (fun i' _ => l.length - (intOf i').toNat)
  case atStart => exact ⟨0, [], rfl, by omega, hm0, Lib.hid (fun n => by simp [getM]), hb0⟩
  case round =>
    clear hm0 hb0
    obtain ⟨i, m, rfl, hi, hm, ho, hbel⟩ := hrel
    obtain ⟨wo, hwo⟩ : ∃ wo, wo = wr := ⟨_, rfl⟩
    subst hwo
    by_cases hlt : i < l.length
    · obtain ⟨n, hn, hd⟩ := drop_step hlt
      obtain ⟨g0, off0, hA0, hgb0, hc0⟩ := (hr.below hbel (Nat.le_refl _)).at_S hn
      have hlk := look_oft hm ho.out n
      have hcl : (l.take i).count n ≤ 1048576 := Nat.le_trans List.count_le_length (by rw [List.length_take]; omega)
      have hst : ∀ x, (l.take (i + 1)).count x = (l.take i).count x + (if x = n then 1 else 0) := fun x => by
        rw [List.take_add_one, hn, Option.toList_some, List.count_append]
        by_cases hx : x = n
        · subst hx; simp
        · have h0 : List.count x [n] = 0 := List.count_eq_zero.2 (by simpa using hx)
          rw [if_neg hx, h0]
      have hmm2 : ∀ x, x ∈ l.take (i + 1) ↔ x ∈ l.take i ∨ x = n := fun x => by rw [List.take_add_one, hn]; simp
      obtain ⟨kc, hkc⟩ : ∃ kc, (l.take i).count n = kc := ⟨_, rfl⟩
      have hnew := Lib.hid (show OftM (putM m n (.int .i64 ((kc : Int) + 1))) (l.take (i + 1)) from fun x => by
        rw [getM_put]
        by_cases hx : x = n
        · subst hx
          rw [if_pos rfl, if_pos ((hmm2 x).2 (.inr rfl)), hst x, if_pos rfl, hkc]
          rfl
        · rw [if_neg hx, ho.out x, hst x, if_neg hx, Nat.add_zero]
          by_cases h2 : x ∈ l.take i
          · rw [if_pos h2, if_pos ((hmm2 x).2 (.inl h2))]; rfl
          · rw [if_neg h2, if_neg (fun h3 => ((hmm2 x).1 h3).elim h2 hx)])
      rw [hkc] at hlk hcl
      subst hA0
      clear hn hd hst hmm2 hkc
      go_wp2_with (at_mapUpdate; refine wpList_mapPut rfl _ _ _ rfl Tryd.underlying92 Tryd.underlying9 rfl hm n rfl (.int .i64 ((kc : Int) + 1)) rfl ?_; intro w5 hm5 hs5)
      go_roundw
      case rel => exact ⟨i + 1, _, by go_num, by omega, hm5, hnew, hbel.trans (hs5.toBelow hbel.size (fun j hj e => by omega))⟩
      case measure => simp [intOf]; omega
    · obtain rfl : i = l.length := by omega
      have ho2 := ho.out
      rw [List.take_length] at ho2
      have hmN := hm.nodup
      have hent : ∀ p ∈ m, p.1 ∈ l ∧ p.2 = .int .i64 (l.count p.1 : Int) := fun p hp => by
        have h1 := getM_of_mem (k := p.1) (v := p.2) hmN hp
        rw [ho2 p.1] at h1
        by_cases h2 : p.1 ∈ l
        · rw [if_pos h2] at h1
          injection h1 with h1
          exact ⟨h2, h1.symm⟩
        · rw [if_neg h2] at h1; cases h1
      have hall2 : ∀ n ∈ l, ∃ v, (n, v) ∈ m := fun n hn => by
        have h1 := ho2 n
        rw [if_pos hn] at h1
        exact ⟨_, getM_some_mem h1⟩
      have Hent := Lib.hid hent
      have Hall2 := Lib.hid hall2
      have HmN := Lib.hid hmN
      clear ho ho2 hent hall2 hmN hr
      go_wp2_with (at_range; refine wpList_rangeM rfl _ rfl Tryd.underlying92 rfl hm ?_; intro w6 hrg6 hb6 hsz6)
      have hbel6 := hbel.trans (hb6.mono hbel.size)
      have hwo := hbel.size
      go_frame
      go_loopw [28] (fun _ wr => ∃ (todo : List (Txt × Value)), RngM wr w.heap.size wo.heap.size m todo ∧ Hid ((∀ p ∈ todo, p ∈ m) ∧ ∀ p ∈ m, p ∈ todo ∨ ∃ t ∈ all, nmT t = p.1 ∧ l.count p.1 ≤ all.count t) ∧ Below w.heap.size w wr) (fun _ wr => wr.rangeLeft w.heap.size wo.heap.size)
      case atStart => exact ⟨m, hrg6, Lib.hid ⟨fun p hp => hp, fun p hp => .inl hp⟩, hbel6⟩
      case round =>
        clear hrg6 hb6 hbel6 hm hbel hsz6
        obtain ⟨todo, hrng, hh, hbel⟩ := hrel
        obtain ⟨wp, hwp⟩ : ∃ wp, wp = wr := ⟨_, rfl⟩
        subst hwp
        cases todo with
        | nil =>
          have hok : DropOk nmT all l := fun n hn => by
            obtain ⟨v, hv⟩ := Hall2.out n hn
            rcases hh.out.2 _ hv with h1 | h1
            · cases h1
            · exact h1
          have Hok := Lib.hid hok
          clear hok
          go_wp2_with (first
            | (at_next; refine wpList_nextM rfl _ rfl rfl hrng (fun _ => ?_) (fun ta k v tb w7 htd => absurd htd (by simp)); go_frame)
            | (at_range; refine wpList_rangeM rfl _ rfl Tryd.underlying92 rfl hrng.map ?_; intro w6 hrg6 hb6 hsz6))
          have hbel6 := hbel.trans (hb6.mono hbel.size)
          have hwp0 := hbel.size
          have hEw : ∀ e ∈ E, e.1 < w.heap.size := fun e he => (Hh.out.pcs e he).lt
          have hgmw := Hh.out.map.lt
          have hbw := Hh.out.box.lt
          have hsame0 : SameBut (FPl b gm E) w w6 := (Larder.Below.same hbel6).mono fun j hj h2 => absurd h2 (by omega)
          have hnm0 : (keysM (mapE nmT E)).Nodup := Hh.out.map.nodup
          have hJ0 : DrpJ w b gm room w.heap.size wp.heap.size E all l m E cnt m w6 := ⟨hrg6, Hbx.out w6 hbel6, fun t ht => by
              rw [Hp.out.cnt t ht]
              split
              · rfl
              · rename_i h1
                have : l.count (nmT t) = 0 := List.count_eq_zero.2 fun h2 => by
                  obtain ⟨v, hv⟩ := Hall2.out _ h2
                  exact h1 (List.mem_map.2 ⟨_, hv, rfl⟩)
                omega, fun t => by
              rw [Hp.out.mem t]
              constructor
              · intro h1
                exact ⟨h1, by rw [Hp.out.cnt t h1]; exact List.count_pos_iff.2 h1⟩
              · exact fun h1 => h1.1, Hp.out.nd, fun e he => he, fun q hq => hq, HmN.out, hsame0⟩
          have Hhu := Lib.hid hu
          clear hrng hrg6 hb6 hsz6 hbel6 hsame0 hnm0 hbel hh hu
          (try go_frame)
          go_loopw [51] (fun _ wr => ∃ (E' : List (Nat × Txt)) (cnt' : Txt → Nat) (todo : List (Txt × Value)), DrpJ w b gm room w.heap.size wp.heap.size E all l m E' cnt' todo wr) (fun _ wr => wr.rangeLeft w.heap.size wp.heap.size)
          case atStart => exact ⟨E, cnt, m, hJ0⟩
          case round =>
            clear hJ0
            obtain ⟨E', cnt', todo, hj⟩ := hrel
            obtain ⟨wq, hwq⟩ : ∃ wq, wq = wr := ⟨_, rfl⟩
            subst hwq
            have hrng := hj.rng
            have Hj := Lib.hid hj
            have hpl := hj.pile
            clear hj
            cases todo with
            | nil =>
              have hfin := Lib.hid (show DropPl w b gm room E all l (.returned (.int .i64 0)) wq from by
                refine .inr ⟨Hok.out, rfl, fun all' ha hc => ⟨E', cnt', Hj.out.pile, ⟨Hp.out.inj.sub ha, fun t => ?_, Hj.out.nd, fun t ht => ?_⟩, Hj.out.same, fun j hj => ?_⟩⟩
                · have hct : ∀ t ∈ all, cnt' t = all'.count t := fun t ht => by rw [Hj.out.cnt t ht, if_neg (by simp [keysM]), hc t ht]
                  rw [Hj.out.mem t]
                  constructor
                  · rintro ⟨h1, h2⟩
                    rw [hct t h1] at h2
                    exact List.count_pos_iff.1 h2
                  · intro h1
                    exact ⟨ha t h1, by rw [hct t (ha t h1)]; exact List.count_pos_iff.2 h1⟩
                · rw [Hj.out.cnt t (ha t ht), if_neg (by simp [keysM]), hc t (ha t ht)]
                · rcases hj with h1 | h1 | h1
                  · exact .inl (.inl h1)
                  · exact .inl (.inr (.inl h1))
                  · obtain ⟨e, he, rfl⟩ := List.mem_map.1 h1
                    exact .inl (.inr (.inr (List.mem_map.2 ⟨e, Hj.out.sub e he, rfl⟩))))
              clear hpl
              go_wp2_with (at_next; refine wpList_nextM rfl _ rfl rfl hrng (fun _ => ?_) (fun ta k v tb w7 htd => absurd htd (by simp)); go_frame)
              go_ret
              exact hfin.out
            | cons p td =>
              have hl0 := hrng.left
              go_upto_region 15 with (at_next; refine wpList_nextM rfl _ rfl rfl hrng (fun h0 => absurd h0 (by simp)) (fun ta k v tb w7 htd hrg7 hs7 hsz7 hen7 => ?_); go_frame)
              have hin : (k, v) ∈ m := Hj.out.tsub _ (by rw [htd]; simp)
              obtain ⟨hkl, hv⟩ := Hent.out _ hin
              simp only at hkl hv
              subst hv
              obtain ⟨t0, ht0, hn0, hk0⟩ := Hok.out k hkl
              have hkp : 0 < l.count k := List.count_pos_iff.2 hkl
              have hkin : k ∈ keysM (p :: td) := by rw [htd]; simp [keysM]
              have hc0 : cnt' t0 = all.count t0 := by rw [Hj.out.cnt t0 ht0, hn0, if_pos hkin]
              have htE : t0 ∈ E'.map (·.2) := (Hj.out.mem t0).2 ⟨ht0, by omega⟩
              obtain ⟨e0, he0, het⟩ := List.mem_map.1 htE
              have hrn : ∀ j, FPl b gm E' j → ¬ j = wp.heap.size := by
                rintro j (rfl | rfl | hj) e
                · omega
                · omega
                · obtain ⟨x, hx, rfl⟩ := List.mem_map.1 hj
                  have := hEw x (Hj.out.sub x hx)
                  omega
              have hpl7 := hpl.but hs7 hrn
              have hsm7 := Hj.out.same.trans hs7 (fun j hj e => by omega)
              have hmm7 := hpl7.map
              have c27 := hpl7.box.cell (j := 2) rfl
              have hpc := hpl7.pcs e0 he0
              obtain ⟨kc, hkc⟩ : ∃ kc, l.count k = kc := ⟨_, rfl⟩
              have hcl : kc ≤ 1048576 := by rw [← hkc]; exact Nat.le_trans List.count_le_length hl
              have hcl2 : all.count t0 ≤ 2000000 := Nat.le_trans List.count_le_length hall
              obtain ⟨ac, hac⟩ : ∃ ac, all.count t0 = ac := ⟨_, rfl⟩
              rw [hkc] at hk0 hkp hen7
              rw [hac] at hc0 hk0 hcl2
              simp only [het] at hpc
              rw [hc0] at hpc
              have hlk0 : (Instr.lookup 79 (.map (some gm)) (S k) false).run Tryd.prog w7 = .ok (pgP e0.1) w7 := by
                rcases hpl7.look k with ⟨_, h2⟩ | ⟨e, he, h2, h1⟩
                · exact absurd (by rw [het, hn0]) (h2 e0 he0)
                · have h3 : e = e0 := by
                    have h4 : e.2 = e0.2 := by
                      have h5 : e.2 ∈ all := ((Hj.out.mem e.2).1 (List.mem_map.2 ⟨e, he, rfl⟩)).1
                      rw [het]
                      exact Hp.out.inj e.2 h5 t0 ht0 (h2.trans hn0.symm)
                    have hi := (List.pairwise_map.1 Hj.out.nd)
                    apply Classical.byContradiction
                    intro hne
                    rcases List.pairwise_iff_getElem.1 hi with hpw
                    obtain ⟨i, hi1, hi2⟩ := List.getElem_of_mem he
                    obtain ⟨j, hj1, hj2⟩ := List.getElem_of_mem he0
                    rcases Nat.lt_trichotomy i j with hlt | heq | hlt
                    · exact hpw i j hi1 hj1 hlt (by rw [hi2, hj2]; exact h4)
                    · subst heq; exact hne (hi2.symm.trans hj2)
                    · exact hpw j i hj1 hi1 hlt (by rw [hi2, hj2]; exact h4.symm)
                  rw [h3] at h1
                  exact h1
              have hnmE : (E'.map fun x => nmT x.2).Nodup := by have := hmm7.nodup; rwa [keys_mapE] at this
              have hfd := find_mapE (nm := nmT) (n := k) he0 (by rw [het, hn0]) hnmE
              have q1 := hpc.cell (j := 1) rfl
              have f1 := hpc.free 1
              have hset := hpl7.setCnt he0 Hj.out.nd (ac - kc)
              have hcast : ((ac - kc : Nat) : Int) = (ac : Int) - (kc : Int) := by omega
              rw [hcast] at hset
              have hrg8 : RngM (w7.setCell ⟨e0.1, 1, none⟩ (.int .i64 ((ac : Int) - (kc : Int)))) w.heap.size wp.heap.size m (ta ++ tb) := hrg7.but ((SameBut.refl (B := fun j => j = e0.1) w7).setCell _ _ (fun _ => rfl)) (fun e => by have := hEw e0 (Hj.out.sub e0 he0); omega) (fun e => by have := hEw e0 (Hj.out.sub e0 he0); omega)
              have hsm8 : SameBut (FPl b gm E) w (w7.setCell ⟨e0.1, 1, none⟩ (.int .i64 ((ac : Int) - (kc : Int)))) := hsm7.setCell _ _ (fun _ => .inr (.inr (List.mem_map.2 ⟨e0, Hj.out.sub e0 he0, rfl⟩)))
              have het2 : e0.2 = t0 := het
              have hkT : keysM (p :: td) = keysM ta ++ k :: keysM tb := by rw [htd]; simp [keysM]
              have hknd := Hj.out.kn
              rw [hkT] at hknd
              have hkno : k ∉ keysM (ta ++ tb) := by
                have e1 : keysM (ta ++ tb) = keysM ta ++ keysM tb := by simp [keysM]
                rw [e1]
                rw [List.nodup_append] at hknd
                obtain ⟨h1, h2, h3⟩ := hknd
                intro h4
                rcases List.mem_append.1 h4 with h4 | h4
                · exact h3 k h4 k (by simp) rfl
                · exact (List.nodup_cons.1 h2).1 h4
              have hkoth : ∀ x, x ≠ k → (x ∈ keysM (p :: td) ↔ x ∈ keysM (ta ++ tb)) := fun x hx => by
                have e1 : keysM (ta ++ tb) = keysM ta ++ keysM tb := by simp [keysM]
                rw [hkT, e1]
                simp [hx]
              have hknd2 : (keysM (ta ++ tb)).Nodup := by
                have e1 : keysM (ta ++ tb) = keysM ta ++ keysM tb := by simp [keysM]
                rw [e1]
                exact hknd.sublist (List.Sublist.append_left (List.sublist_cons_self _ _) _)
              have htsub : ∀ q ∈ ta ++ tb, q ∈ m := fun q hq => Hj.out.tsub q (by
                rw [htd]
                rcases List.mem_append.1 hq with h | h
                · exact List.mem_append_left _ h
                · exact List.mem_append_right _ (List.mem_cons_of_mem _ h))
              have hcntN : ∀ t ∈ all, (if t = e0.2 then ac - kc else cnt' t) = if nmT t ∈ keysM (ta ++ tb) then all.count t else all.count t - l.count (nmT t) := fun t ht => by
                by_cases h1 : t = t0
                · subst h1
                  rw [het2, if_pos rfl, hn0, if_neg hkno, hac, hkc]
                · have h2 : nmT t ≠ k := fun h3 => h1 (Hp.out.inj t ht t0 ht0 (h3.trans hn0.symm))
                  rw [het2, if_neg h1, Hj.out.cnt t ht]
                  by_cases h3 : nmT t ∈ keysM (p :: td)
                  · rw [if_pos h3, if_pos ((hkoth _ h2).1 h3)]
                  · rw [if_neg h3, if_neg (fun h4 => h3 ((hkoth _ h2).2 h4))]
              have hl9 := fun (W : World) (hW : RngM W w.heap.size wp.heap.size m (ta ++ tb)) => hW.left
              have hll9 : (ta ++ tb).length < (p :: td).length := by rw [htd]; simp
              have hbox8 := hset.box
              have hmap8 := hset.map
              have hpcs8 := hset.pcs
              have hnb8 := hset.nb
              have hpc8 := hset.pcs e0 he0
              have c8 := hbox8.cell (j := 1) rfl
              have c82 := hbox8.cell (j := 2) rfl
              have f8 := hbox8.free 1
              have p80 := hpc8.cell (j := 0) rfl
              have p81 := hpc8.cell (j := 1) rfl
              rw [het2] at p80
              have hcs : ((if e0.2 = e0.2 then ac - kc else cnt' e0.2 : Nat) : Int) = (ac : Int) - (kc : Int) := by rw [if_pos rfl]; exact hcast
              rw [hcs] at p81
              have hlen0 : t0.length ≤ sumT (E'.map (·.2)) := sum_mem htE
              have hgb := Hj.out.pile.bNe he0
              have hgg := hset.gmNe2 he0
              have hgmb := hset.gmNe
              have hge1 := Hj.out.sub e0 he0
              have Hkoth := Lib.hid hcntN
              by_cases hz : ac = kc
              · have hzE : ((ac : Int) - (kc : Int) == 0) = true := by simp; omega
                have hzI : (ac : Int) - (kc : Int) = 0 := by omega
                rw [hzI] at hset hrg8 hsm8 hbox8 hmap8 hpcs8 c8 c82 f8 p80 p81
                obtain ⟨a', b', hE', hdel⟩ := hfd
                have hsu : sumT (E'.map (·.2)) = sumT ((a' ++ b').map (·.2)) + t0.length := by
                  rw [hE']
                  simp only [List.map_append, List.map_cons, sumT_append, sumT_cons, het2]
                  omega
                have hule : sumT (E'.map (·.2)) ≤ room := by
                  have h1 : ∀ (X Y : List (Nat × Txt)), (X.map (·.2)).Nodup → (∀ e ∈ X, e ∈ Y) → sumT (X.map (·.2)) ≤ sumT (Y.map (·.2)) := by
                    intro X
                    induction X with
                    | nil => intro Y _ _; simp [sumT]
                    | cons x X ih =>
                      intro Y h1 h2
                      obtain ⟨Y1, Y2, rfl⟩ := List.append_of_mem (h2 x (by simp))
                      have h3 := ih (Y1 ++ Y2) (List.nodup_cons.1 h1).2 (fun e he => by
                        have h4 := h2 e (by simp [he])
                        simp only [List.mem_append, List.mem_cons] at h4 ⊢
                        rcases h4 with h4 | rfl | h4
                        · exact .inl h4
                        · exact absurd (List.mem_map.2 ⟨_, he, rfl⟩) (List.nodup_cons.1 h1).1
                        · exact .inr h4)
                      simp only [List.map_append, List.map_cons, sumT_append, sumT_cons] at h3 ⊢
                      omega
                  exact Nat.le_trans (h1 E' E Hj.out.nd Hj.out.sub) Hhu.out
                obtain ⟨us, hus⟩ : ∃ us, sumT (E'.map (·.2)) = us := ⟨_, rfl⟩
                obtain ⟨un, hun⟩ : ∃ un, sumT ((a' ++ b').map (·.2)) = un := ⟨_, rfl⟩
                rw [hus] at c8 hlen0 hsu hule
                rw [hun] at hsu
                have hbox9 := (hbox8.drew).set 1 (.int .i64 (un : Int))
                have hmap9 := (hmap8.drew).setCell ⟨b, 1, none⟩ hgmb (.int .i64 (un : Int))
                have hrg9 := RngM.but hrg8 (((SameBut.refl (B := fun j => j = b) (w7.setCell ⟨e0.1, 1, none⟩ (.int .i64 0))).drew).setCell ⟨b, 1, none⟩ (.int .i64 (un : Int)) (fun _ => rfl)) (by omega) (by omega)
                have hsm9 := (hsm8.drew).setCell ⟨b, 1, none⟩ (.int .i64 (un : Int)) (fun _ => .inl rfl)
                have hpcs9 : ∀ e ∈ a' ++ b', BoxAt (((w7.setCell ⟨e0.1, 1, none⟩ (.int .i64 0)).drew).setCell ⟨b, 1, none⟩ (.int .i64 (un : Int))) e.1 90 [S e.2, .int .i64 ((if e.2 = e0.2 then ac - kc else cnt' e.2 : Nat) : Int)] := fun e he => by
                  have he2 : e ∈ E' := by
                    rw [hE']
                    rcases List.mem_append.1 he with h | h
                    · exact List.mem_append_left _ h
                    · exact List.mem_append_right _ (List.mem_cons_of_mem _ h)
                  exact ((hpcs8 e he2).drew).setOther ⟨b, 1, none⟩ (hset.bNe he2) _
                have hun2 : (us : Int) - (t0.length : Int) = (un : Int) := by omega
                have hle3 : (t0.length : Int) ≤ (us : Int) := by omega
                have husI : (us : Int) ≤ 1000000 := by omega
                have hwr : IntKind.i64.wrap ((us : Int) - (t0.length : Int)) = (un : Int) := by rw [IntWalk.i64_in _ ⟨by omega, by omega⟩]; exact hun2
                have c29 := hbox9.cell (j := 2) rfl
                have hnd9 : ((a' ++ b').map (·.2)).Nodup ∧ t0 ∉ (a' ++ b').map (·.2) := by
                  have h1 := Hj.out.nd
                  rw [hE'] at h1
                  simp only [List.map_append, List.map_cons, het2, List.nodup_append, List.nodup_cons, List.mem_cons] at h1 ⊢
                  obtain ⟨h2, ⟨h3, h4⟩, h5⟩ := h1
                  refine ⟨⟨h2, h4, fun x hx y hy => h5 x hx y (.inr hy)⟩, fun h6 => ?_⟩
                  rcases List.mem_append.1 h6 with h6 | h6
                  · exact h5 _ h6 _ (.inl rfl) rfl
                  · exact h3 h6
                have hnb9 : ((a' ++ b').map (·.1)).Nodup := by
                  have h1 := hnb8
                  rw [hE'] at h1
                  simp only [List.map_append, List.map_cons] at h1 ⊢
                  exact h1.sublist (List.Sublist.append_left (List.sublist_cons_self _ _) _)
                have hmem9 := Lib.hid (show ∀ t, t ∈ (a' ++ b').map (·.2) ↔ t ∈ all ∧ 0 < (if t = e0.2 then ac - kc else cnt' t) from fun t => by
                  by_cases h1 : t = t0
                  · subst h1
                    rw [het2, if_pos rfl]
                    exact ⟨fun h2 => absurd h2 hnd9.2, fun h2 => by omega⟩
                  · rw [het2, if_neg h1, ← Hj.out.mem t, hE']
                    simp [h1, het2])
                have hsub9 := Lib.hid (show ∀ e ∈ a' ++ b', e ∈ E from fun e he => Hj.out.sub e (by
                  rw [hE']
                  rcases List.mem_append.1 he with h | h
                  · exact List.mem_append_left _ h
                  · exact List.mem_append_right _ (List.mem_cons_of_mem _ h)))
                have Hbox9 := Lib.hid hbox9
                have Hrg9 := Lib.hid hrg9
                have Hsm9 := Lib.hid hsm9
                have Hpcs9 := Lib.hid hpcs9
                have Hnd9 := Lib.hid hnd9
                have Hnb9 := Lib.hid hnb9
                have Hdel := Lib.hid hdel
                have Hun := Lib.hid hun
                have Hgg := Lib.hid (And.intro hgb (And.intro hgg hgmb))
                have HEx := Lib.hid (show ∀ e ∈ a' ++ b', gm ≠ e.1 from fun e he => hset.gmNe2 (by
                  rw [hE']
                  rcases List.mem_append.1 he with h | h
                  · exact List.mem_append_left _ h
                  · exact List.mem_append_right _ (List.mem_cons_of_mem _ h)))
                have Hts := Lib.hid htsub
                have Hk2 := Lib.hid hknd2
                have Hl9 := Lib.hid hl9
                have Hll9 := Lib.hid hll9
                have Hac := Lib.hid (And.intro hk0 hcast)
                clear hbox9 hrg9 hsm9 hpcs9 hnd9 hnb9 hdel hun hgb hgg hgmb htsub hknd2 hl9 hll9 hcs hcntN hsu hule hus hE' hlen0 hpcs8 hnb8 hpc8 hbox8 hmap8 hset hrg8 hsm8 hnmE hpc hmm7 hsm7 hpl7 hrn hc0 htE he0 het het2 hkin hkp hn0 ht0 hkl hin htd hkT hknd hkno hkoth hac hkc hge1 hcast hz hs7 hrg7 hrng hpl hsz7
                go_upto_region 19 with fail
                clear q1 f1 c27 hlk0 hen7
                generalize w7.setCell ⟨e0.1, 1, none⟩ (.int .i64 0) = w8 at *
                refine wp_region_still_tail 12 (by kernel_rfl) (by kernel_rfl) ?_
                simp only [List.take_succ_cons, List.take_zero, List.drop_succ_cons, List.drop_zero]
                repeat still_step
                try refine wpStill_nil ?_
                change wpList _ _ _ _ _ w8.drew
                go_wp2_with (at_delete; refine wpList_mapDel rfl _ _ rfl Tryd.underlying79 Tryd.underlying9 rfl hmap9 k rfl ?_; intro w10 hm10 hs10)
                rw [Hdel.out] at hm10
                have hrg10 := RngM.but Hrg9.out hs10 (by omega) (by omega)
                have hnew : DrpJ w b gm room w.heap.size wp.heap.size E all l m (a' ++ b') (fun t => if t = e0.2 then ac - kc else cnt' t) (ta ++ tb) w10 :=
                  ⟨hrg10, ⟨by rw [Hun.out]; exact hs10.box Hbox9.out (fun e => Hgg.out.2.2 e.symm), hm10, fun e he => hs10.box (Hpcs9.out e he) (fun e1 => HEx.out e he e1.symm), Hnb9.out⟩, Hkoth.out, hmem9.out, Hnd9.out.1, hsub9.out, Hts.out, Hk2.out, Hsm9.out.trans hs10 (fun j hj e => .inr (.inl e))⟩
                have hl10 := Hl9.out w10 hrg10
                exact ⟨⟨_, _, _, hnew⟩, by rw [hl10]; exact Hll9.out⟩
              · have hzE : ((ac : Int) - (kc : Int) == 0) = false := beqI (by omega)
                have hzI : ¬ (ac : Int) - (kc : Int) = 0 := by omega
                have hnew := Lib.hid (show DrpJ w b gm room w.heap.size wp.heap.size E all l m E' (fun t => if t = e0.2 then ac - kc else cnt' t) (ta ++ tb) (w7.setCell ⟨e0.1, 1, none⟩ (.int .i64 ((ac : Int) - (kc : Int)))) from
                  ⟨hrg8, hset, hcntN, fun t => by
                    by_cases h1 : t = t0
                    · subst h1
                      rw [het2, if_pos rfl]
                      exact ⟨fun _ => ⟨ht0, by omega⟩, fun _ => htE⟩
                    · rw [het2, if_neg h1]
                      exact Hj.out.mem t, Hj.out.nd, Hj.out.sub, htsub, hknd2, hsm8⟩)
                have hl10 := hl9 _ hrg8
                have Hl10 := Lib.hid (And.intro hl10 hl0)
                have Hll9 := Lib.hid hll9
                clear hgb hgg hgmb htsub hknd2 hl9 hll9 hcs hcntN hlen0 hpcs8 hnb8 hpc8 hbox8 hmap8 hset hrg8 hsm8 hnmE hfd hpc hmm7 hsm7 hpl7 hrn hc0 htE he0 het het2 hkin hkp hn0 ht0 hkl hin htd hkT hknd hkno hkoth hac hkc hge1 hcast hz hs7 hrg7 hrng hpl hsz7 hl10 hl0 p80 c8 c82 f8
                go_wp2_with fail
                go_roundw
                case rel =>
                  first
                    | exact ⟨_, _, _, hnew.out⟩
                    | ((repeat apply Exists.intro); refine ⟨?_, rfl⟩; exact ⟨_, _, _, hnew.out⟩)
                case measure =>
                  rw [Hl10.out.1, Hl10.out.2]
                  exact Hll9.out
        | cons p td =>
          have hl0 := hrng.left
          have hpl := fun W (hW : Below w.heap.size w W) => Hbx.out W hW
          go_upto_region 9 with (at_next; refine wpList_nextM rfl _ rfl rfl hrng (fun h0 => absurd h0 (by simp)) (fun ta k v tb w7 htd hrg7 hs7 hsz7 hen7 => ?_); go_frame)
          have hin : (k, v) ∈ m := hh.out.1 _ (by rw [htd]; simp)
          obtain ⟨hkl, hv⟩ := Hent.out _ hin
          simp only at hkl hv
          subst hv
          have hbel7 := hbel.trans (hs7.toBelow hbel.size (fun j hj e => by omega))
          have hP7 := hpl w7 hbel7
          have c27 := hP7.box.cell (j := 2) rfl
          have hcl : l.count k ≤ 1048576 := Nat.le_trans List.count_le_length hl
          obtain ⟨kc, hkc⟩ : ∃ kc, l.count k = kc := ⟨_, rfl⟩
          have hlook := hP7.look k
          have Htd := Lib.hid htd
          have Hkl := Lib.hid hkl
          have Hin := Lib.hid hin
          rw [hkc] at hen7 hcl
          have Hkc := Lib.hid hkc
          clear hpl htd hkl hin hkc hsz7
          rcases hlook with ⟨hl1, hl2⟩ | ⟨e, he, hl2, hl1⟩
          · have Hno := Lib.hid (show ¬ DropOk nmT all l from fun hd => by
              obtain ⟨t, ht, h1, h2⟩ := hd k Hkl.out
              obtain ⟨e, he, e1⟩ := List.mem_map.1 ((Hp.out.mem t).2 ht)
              exact hl2 e he (by rw [e1, h1]))
            clear hl2
            go_wp2_with fail
            go_ret
            exact .inl ⟨Hno.out, rfl, hbel7⟩
          · have hte : e.2 ∈ all := (Hp.out.mem e.2).1 (List.mem_map.2 ⟨e, he, rfl⟩)
            have q1 := (hP7.pcs e he).cell (j := 1) rfl
            rw [Hp.out.cnt e.2 hte] at q1
            have hac : all.count e.2 ≤ 2000000 := Nat.le_trans List.count_le_length hall
            obtain ⟨ac, hacE⟩ : ∃ ac, all.count e.2 = ac := ⟨_, rfl⟩
            rw [hacE] at q1 hac
            by_cases hlt2 : (ac : Int) < (kc : Int)
            · have Hno := Lib.hid (show ¬ DropOk nmT all l from fun hd => by
                obtain ⟨t, ht, h1, h2⟩ := hd k Hkl.out
                have h3 := Hp.out.inj t ht e.2 hte (h1.trans hl2.symm)
                rw [h3, hacE, Hkc.out] at h2
                omega)
              clear hl2 hte hacE he
              go_wp2_with fail
              go_ret
              exact .inl ⟨Hno.out, rfl, hbel7⟩
            · have Hyes := Lib.hid (show ∃ t ∈ all, nmT t = k ∧ l.count k ≤ all.count t from ⟨e.2, hte, hl2, by rw [hacE, Hkc.out]; omega⟩)
              have hl9 := hrg7.left
              have hll9 : (ta ++ tb).length < (p :: td).length := by rw [Htd.out]; simp
              have hnew := Lib.hid (show (∀ q ∈ ta ++ tb, q ∈ m) ∧ ∀ q ∈ m, q ∈ ta ++ tb ∨ ∃ t ∈ all, nmT t = q.1 ∧ l.count q.1 ≤ all.count t from by
                constructor
                · intro q hq
                  refine hh.out.1 q ?_
                  rw [Htd.out]
                  rcases List.mem_append.1 hq with h | h
                  · exact List.mem_append_left _ h
                  · exact List.mem_append_right _ (List.mem_cons_of_mem _ h)
                · intro q hq
                  rcases hh.out.2 q hq with h1 | h1
                  · rw [Htd.out] at h1
                    simp only [List.mem_append, List.mem_cons] at h1 ⊢
                    rcases h1 with h1 | rfl | h1
                    · exact .inl (.inl h1)
                    · exact .inr Hyes.out
                    · exact .inl (.inr h1)
                  · exact .inr h1)
              clear hl2 hte hacE he
              go_wp2_with fail
              go_roundw
              case rel =>
                first
                  | exact ⟨_, hrg7, hnew, hbel7⟩
                  | ((repeat apply Exists.intro); refine ⟨?_, rfl⟩; exact ⟨_, hrg7, hnew, hbel7⟩)
              case measure =>
                rw [hl9, hl0]
                exact hll9
end Go.Proofs.YtbchkaoocobpfaaDoor
