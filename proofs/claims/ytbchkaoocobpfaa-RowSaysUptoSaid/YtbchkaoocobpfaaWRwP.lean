/- Walk: rows: one more thing put. -/
import Derived.Test.YtbchkaoocobpfaaWRwK
import Derived.Test.YtbchkaoocobpfaaRndQ
import Derived.BigRegionIn
import Derived.RegionIn
import Derived.Sort.QuietIn
import Derived.StillTailTactics
import Derived.StillTactics
namespace Go.Proofs.Ytbchkaoocobpfaa
open Go.RowKit Go.Larder Go.Shelf
attribute [local go_sem] Oper.semAt_some
set_option linter.unusedVariables false
set_option linter.unusedSimpArgs false
/-- the first thing of a row, dropped -/
theorem w_RDropHead (b gc gm room g s : Nat) (k : List UInt8) (r : List Lnk) (w : World) (h : RowAt w b gc gm room ((g, k, s) :: r)) :
    Calls Try.prog 14 #[pg b, S k] w fun e w' => e = .returned (.int .i64 0) ∧ RowAt w' b gc gm room r ∧ SameBut (FRow b gc gm ((g, k, s) :: r)) w w' ∧
      ∃ p, BoxAt w' g 108 [S k, .int .i64 (s : Int), pg p, pg (hd1 gc (bksL r))] := by
  have hk := h.keys
  refine (w_RDrop b gc gm room _ k w h).mono ?_
  rintro e w' (⟨hn, _, _⟩ | ⟨a, g', s', c, hL, htk, rfl, hr, hs, p, hbx⟩)
  · have : thsL ((g, k, s) :: r) = (k, s) :: thsL r := rfl
    rw [this, takeR, if_pos rfl] at hn
    cases hn
  · cases a with
    | nil =>
      simp only [List.nil_append, List.cons.injEq, Prod.mk.injEq] at hL hr
      obtain ⟨⟨rfl, -, rfl⟩, rfl⟩ := hL
      exact ⟨rfl, hr, hs, p, hbx⟩
    | cons x a =>
      exfalso
      simp only [List.cons_append, List.cons.injEq] at hL
      obtain ⟨rfl, rfl⟩ := hL
      simp [keysR, thsL] at hk
theorem shed_step {room size : Nat} {t : Thg} {r : List Thg} (h : ¬ usedR (t :: r) + size ≤ room) : shedR room size (t :: r) = (t.1 :: (shedR room size r).1, (shedR room size r).2) := by
  rw [shedR, if_neg h]
theorem shed_stop {room size : Nat} {r : List Thg} (h : usedR r + size ≤ room) : shedR room size r = ([], r) := by
  cases r with
  | nil => rfl
  | cons t r => rw [shedR, if_pos h]
/-- between two rounds of put -/
structure PJ (w : World) (o b gc gm room size : Nat) (L L1 : List Lnk) (lp : Loop) (gone : List (List UInt8)) (rest : List Lnk) (W : World) : Prop where
  book : W.heap[o + 2]? = some (.loop lp)
  dfr : W.heap[o + 1]? = some (.deferred (some []))
  out : ∃ A c, BoxAt W o 30 [.slice A gone.length c] ∧ OwnL encL W (o + 3) 9 A c gone
  br : BoxAt W w.heap.size 23 [pg b]
  bs : BoxAt W (w.heap.size + 1) 3 [.int .i64 (size : Int)]
  row : RowAt W b gc gm room rest
  sh : shedR room size (thsL L1) = (gone ++ (shedR room size (thsL rest)).1, (shedR room size (thsL rest)).2)
  suf : ∃ pre, L1 = pre ++ rest
  gl : gone.length + rest.length ≤ 1000000
  same : SameBut (fun j => FRow b gc gm L j ∨ w.heap.size ≤ j) w W
theorem PJ.but {w W W' : World} {o b gc gm room size : Nat} {L L1 : List Lnk} {lp lp' : Loop} {gone : List (List UInt8)} {rest : List Lnk} (h : PJ w o b gc gm room size L L1 lp gone rest W) (hoo : w.heap.size + 2 ≤ o) (hF : ∀ j, FRow b gc gm rest j → j < o)
    (hs : SameBut (fun j => j = o + 2) W W') (hb : W'.heap[o + 2]? = some (.loop lp')) : PJ w o b gc gm room size L L1 lp' gone rest W' := by
  obtain ⟨A, c, h1, h2⟩ := h.out
  have h3 := (Array.getElem?_eq_some_iff.1 h.book).1
  refine ⟨hb, (hs.block _ (by omega) (by omega)).trans h.dfr, ⟨A, c, hs.box h1 (by omega), hs.own h2 fun a ha => ?_⟩, hs.box h.br (by omega), hs.box h.bs (by omega), h.row.but hs (fun j hj e => by have := hF j hj; omega), h.sh, h.suf, h.gl, h.same.trans hs fun j hj e => .inr (by omega)⟩
  have := (h2.lt a ha).1
  omega
theorem _root_.Go.Larder.SameBut.drewN {B : Nat → Prop} {w w' : World} (h : SameBut B w w') (n : Nat) : SameBut B w (w'.drewN n) := ⟨h.os, h.tape, h.output, h.size, h.block⟩
theorem ChAt.drew {w : World} {gc gm : Nat} {L : List Lnk} (h : ChAt w gc gm L) : ChAt w.drew gc gm L := h.but ((SameBut.refl (B := fun _ => False) w).drew) (fun _ _ h => h)
theorem FRow.suf {b gc gm j : Nat} {L1 pre rest : List Lnk} (h : FRow b gc gm rest j) (hs : L1 = pre ++ rest) : FRow b gc gm L1 j := by
  subst hs
  rcases h with h | h | h | h
  · exact .inl h
  · exact .inr (.inl h)
  · exact .inr (.inr (.inl h))
  · exact .inr (.inr (.inr (by rw [bksL_app]; exact List.mem_append_right _ h)))
theorem suf_keys {k : List UInt8} {L1 pre rest : List Lnk} (h : k ∉ keysR (thsL L1)) (hs : L1 = pre ++ rest) : k ∉ keysR (thsL rest) := by
  subst hs
  intro h2
  apply h
  simp only [keysR, thsL, List.map_append, List.mem_append] at h2 ⊢
  exact .inr h2
theorem DropP.any {w w' : World} {b gc gm room : Nat} {L : List Lnk} {k : List UInt8} {e : Ending} (h : DropP w b gc gm room L k e w') (hw : RowAt w b gc gm room L) :
    ∃ v L1, e = .returned v ∧ RowAt w' b gc gm room L1 ∧ thsL L1 = dropR k (thsL L) ∧ k ∉ keysR (thsL L1) ∧ SameBut (FRow b gc gm L) w w' ∧ ∀ j, FRow b gc gm L1 j → FRow b gc gm L j := by
  rcases h with ⟨hn, rfl, rfl⟩ | ⟨a, g, s, c, hL, htk, rfl, hr, hs, _⟩
  · refine ⟨_, L, rfl, hw, by rw [dropR, hn]; rfl, ?_, SameBut.refl _, fun j hj => hj⟩
    intro hk
    obtain ⟨t, ht, rfl⟩ := List.mem_map.1 hk
    exact takeR_none hn t ht rfl
  · refine ⟨_, a ++ c, rfl, hr, by rw [dropR, htk]; rfl, take_keys hw.keys htk, hs, fun j hj => ?_⟩
    rcases hj with h | h | h | h
    · exact .inl h
    · exact .inr (.inl h)
    · exact .inr (.inr (.inl h))
    · refine .inr (.inr (.inr ?_))
      rw [hL]
      simp only [bksL_app, List.mem_append] at h ⊢
      rcases h with h | h
      · exact .inl h
      · exact .inr (List.mem_cons_of_mem _ h)
theorem RowAt.len {w : World} {b gc gm room : Nat} {L : List Lnk} (h : RowAt w b gc gm room L) : L.length ≤ 1000000 := by
  have h1 := len_used h.ps
  have h2 := h.le
  have h3 := h.rm
  have : (thsL L).length = L.length := by simp [thsL]
  omega
/-- what put leaves -/
def PutP (w : World) (b gc gm room : Nat) (L : List Lnk) (k : List UInt8) (size : Int) (e : Ending) (w' : World) : Prop :=
  (size < 1 ∧ e = .returned (.tuple #[.slice none 0 0, .int .i64 1]) ∧ Below w.heap.size w w') ∨
  (1 ≤ size ∧ (room : Int) < size ∧ e = .returned (.tuple #[.slice none 0 0, .int .i64 6]) ∧ Below w.heap.size w w') ∨
  (∃ n : Nat, size = n ∧ 1 ≤ n ∧ n ≤ room ∧ ∃ A c, e = .returned (.tuple #[.slice A (goneR room n k (thsL L)).length c, .int .i64 0]) ∧ OwnL encL w' w.heap.size 9 A c (goneR room n k (thsL L)) ∧
    RowP w b gc gm room L (putR room n k (thsL L)) w')
set_option maxHeartbeats 8000000 in
set_option maxRecDepth 100000 in
theorem w_RPut (b gc gm room : Nat) (L : List Lnk) (k : List UInt8) (size : Int) (hsz : -9223372036854775808 ≤ size ∧ size ≤ 9223372036854775807) (w : World) (h : RowAt w b gc gm room L) :
    Calls Try.prog 9 #[pg b, S k, .int .i64 size] w (PutP w b gc gm room L k size) := by
  have hB2 : Below w.heap.size w ((w.alloc (.cells #[pg b] 23)).alloc (.cells #[.int .i64 size] 3)) := ((Below.refl w.heap.size w).alloc (Nat.le_refl _) _).alloc (by simp) _
  have h2 := h.keep hB2
  have c0 := h2.box.cell (j := 0) rfl
  have hrm := h.rm
  by_cases hs1 : size < 1
  · go_enter Try.func9, Try.ntmps9
    go_wp2_with fail
    go_ret2
    refine .inl ?_
    first | exact ⟨by omega, rfl, hB2⟩ | exact ⟨rfl, hB2⟩ | exact hB2
  · by_cases hs2 : (room : Int) < size
    · go_enter Try.func9, Try.ntmps9
      go_wp2_with fail
      go_region
      go_wp2
      go_ret2
      refine .inr (.inl ?_)
      have hB3 : Below w.heap.size w _ := hB2.drew
      first | exact ⟨by omega, by omega, rfl, hB3⟩ | exact ⟨by omega, rfl, hB3⟩ | exact ⟨rfl, hB3⟩
    · obtain ⟨n, rfl⟩ : ∃ n : Nat, size = n := ⟨size.toNat, by omega⟩
      have h3 : RowAt ((w.alloc (.cells #[pg b] 23)).alloc (.cells #[.int .i64 (n : Int)] 3)).drew b gc gm room L := h.keep hB2.drew
      have hdr := w_RDrop b gc gm room L k _ h3
      refine (callsIn_wide (n := 8)).1 ?_
      refine callsIn_of_wp_marks Try.func9 rfl trivial ?_ rfl
      simp only [Try.ntmps9, List.size_toArray, List.length_cons, List.length_nil, Nat.reduceAdd, Nat.reduceSub, Array.replicate_succ, Array.replicate_zero, List.push_toArray, List.append_toArray, List.nil_append, List.cons_append]
      gi_wp2_with fail
      refine (wpIn_wide (n := 8)).2 ?_
      go_region
      have xr := ((BoxAt.new w [pg b] 23).alloc (.cells #[.int .i64 (n : Int)] 3)).drew
      have xs := (BoxAt.new (w.alloc (.cells #[pg b] 23)) [.int .i64 (n : Int)] 3).drew
      rw [World.size_alloc] at xs
      gi_wp2_with (refine ⟨trivial, ?_⟩; gi_at_call 14; refine (callsIn_wide.2 hdr).mono ?_; rintro e w1 hd; obtain ⟨v, L1, rfl, hrow1, hth1, hkn1, hsb1, hF1⟩ := hd.any h3; have yr := hsb1.box xr (fun hj => absurd (h.lt hj) (by omega)); have ys := hsb1.box xs (fun hj => absurd (h.lt hj) (by omega)); have zr := yr.alloc (.cells #[.slice none 0 0] 30); have zs := ys.alloc (.cells #[.slice none 0 0] 30); have hrow2 := hrow1.keep ((Below.refl w1.heap.size w1).alloc (Nat.le_refl _) (.cells #[.slice none 0 0] 30)); have zc := hrow2.box.cell (j := 2) rfl; have zz := zr.cell (j := 0) rfl)
      refine range_rawB rfl (by omega) (gf := 32) (fs := #[pg gc]) (lb := #[]) ?_ trivial (enters_of Try.func32 (by kernel_rfl) rfl) (encs := fun x : List UInt8 => #[S x]) (fun x => rfl) ?_
      · rfl
      · intro rc W1 hW1 hl hD hB hround
        have hsz1 : (w1.alloc (.cells #[.slice none 0 0] 30)).heap.size = w1.heap.size + 1 := by simp
        have hszo : w.heap.size + 2 ≤ w1.heap.size := by have := hsb1.size; simpa using this
        rw [hsz1] at hl hD hround ⊢
        have b2 : Below w1.heap.size w1 (w1.alloc (.cells #[.slice none 0 0] 30)) := (Below.refl w1.heap.size w1).alloc (Nat.le_refl _) _
        have b3 := b2.trans (hB.mono b2.size)
        have x0 := BoxAt.new w1 [.slice none 0 0] 30
        have y0 := x0.keep hB
        have hL1l := hrow1.len
        have hPJ : PJ w w1.heap.size b gc gm room n L L1 (rc .ready none) [] L1 W1 := ⟨hl, hD, ⟨none, 0, y0, OwnL.nil _ _ _⟩, yr.keep b3, ys.keep b3, hrow1.keep b3, rfl, ⟨[], rfl⟩, by simpa using hL1l,
          ((((Larder.Below.same hB2.drew).mono (fun j _ hj => .inr hj)).trans (hsb1.mono (fun j _ hj => .inl hj)) (fun j _ hj => hj)).below b3 (fun j hj hj2 => .inr (by have := hsb1.size; omega)))⟩
        have hR : RndAll (w1.heap.size + 2) gc (fun rest W => ∃ gone, PJ w w1.heap.size b gc gm room n L L1 (rc .ready none) gone rest W) (fun W => ∃ gone rest, PJ w w1.heap.size b gc gm room n L L1 (rc .done (some (.exit 1))) gone rest W ∧ usedR (thsL rest) + n ≤ room) := by
          rintro ⟨g, k', s⟩ r W ⟨gone, hj⟩
          obtain ⟨A, c, hbo, hown⟩ := hj.out
          obtain ⟨⟨p, hbx⟩, hne⟩ := ChAt.at_ (a := []) hj.row.ch
          obtain ⟨_, _, _, _, hrt⟩ := hj.row.ch.root
          refine ⟨⟨_, _, hbx⟩, hne, ⟨_, hrt⟩, ?_⟩
          refine hround k' W _ hj.book ?_
          have hsz5 : w1.heap.size + 3 ≤ W.heap.size := by have := (Array.getElem?_eq_some_iff.1 hj.book).1; omega
          have hbook := hj.book
          have hj2 := Lib.hid hj
          have hblt := hj.row.lt (j := b) (.inl rfl)
          have hFlt : ∀ j, FRow b gc gm ((g, k', s) :: r) j → j < w1.heap.size := by
            obtain ⟨pre, hpre⟩ := hj.suf
            exact fun j hj => hrow1.lt (hj.suf hpre)
          have hsb : SameBut (fun j => j = w1.heap.size + 2) W (W.putObj (w1.heap.size + 2) (.loop (rc .busy none))) := (SameBut.refl W).put _ _ (fun _ => rfl)
          have hrowb : RowAt (W.putObj (w1.heap.size + 2) (.loop (rc .busy none))) b gc gm room ((g, k', s) :: r) := hj.row.but hsb (fun j hj e => by have := hFlt j hj; omega)
          have r2 := hbo.put (w1.heap.size + 2) (.loop (rc .busy none)) (by omega)
          have r3 := hown.put (w1.heap.size + 2) (.loop (rc .busy none)) (by omega)
          have rr := hj.br.put (w1.heap.size + 2) (.loop (rc .busy none)) (by omega)
          have rs := hj.bs.put (w1.heap.size + 2) (.loop (rc .busy none)) (by omega)
          have hL2 : (W.putObj (w1.heap.size + 2) (.loop (rc .busy none))).heap[w1.heap.size + 2]? = some (.loop (rc .busy none)) := World.putObj_heap_same (by omega)
          have hwsz : w1.heap.size + 3 ≤ (W.putObj (w1.heap.size + 2) (.loop (rc .busy none))).heap.size := by simpa using hsz5
          have hrow := hj.row
          have hgl := hj.gl
          clear hround y0 x0 b2 b3 hj hl hD hB hW1 hPJ hbo hbx hrt hown
          obtain ⟨Wb, hWb⟩ : ∃ Wb, Wb = W.putObj (w1.heap.size + 2) (.loop (rc .busy none)) := ⟨_, rfl⟩
          rw [← hWb] at r2 r3 rr rs hL2 hwsz hrowb hsb
          have q0 := hrowb.box.cell (j := 0) rfl
          have q1 := hrowb.box.cell (j := 1) rfl
          have qr := rr.cell (j := 0) rfl
          have qs := rs.cell (j := 0) rfl
          have q2 := r2.cell (j := 0) rfl
          have hle := hrow.le
          obtain ⟨u, hu⟩ : ∃ u, u = usedR (thsL ((g, k', s) :: r)) := ⟨_, rfl⟩
          rw [← hu] at q1 hle
          have hw64 : IntKind.i64.wrap ((u : Int) + (n : Int)) = (u : Int) + (n : Int) := IntWalk.i64_in _ ⟨by omega, by omega⟩
          have Hu := Lib.hid hu
          clear hu
          gi_wp2_with fail
          refine ⟨hbook, ?_⟩
          rw [← hWb]
          have HWb := Lib.hid hWb
          clear hWb
          by_cases hfit : (u : Int) + (n : Int) ≤ (room : Int)
          · gi_wp2_with fail
            refine wpIn_region_quiet_roundL rfl (by kernel_rfl) (by kernel_rfl) (by kernel_rfl) ?_
            repeat (gi_big_quiet_step (fail))
            refine wpQuietIn_nil ?_
            rintro _ ⟨nq, rfl⟩
            gi_wp2
            have hsn : SameBut (fun j => j = w1.heap.size + 2) W ((Wb.drewN nq).putObj (w1.heap.size + 2) (.loop (rc .done (some (.exit 1))))) := (hsb.drewN nq).put _ _ (fun _ => rfl)
            refine ⟨hL2, .inr ⟨rfl, gone, (g, k', s) :: r, hj2.out.but hszo hFlt hsn (World.putObj_heap_same (by simp; omega)), ?_⟩⟩
            rw [← Hu.out]; omega
          · gi_wp2_with fail
            refine wpIn_region_quiet_roundL rfl (by kernel_rfl) (by kernel_rfl) (by kernel_rfl) ?_
            repeat (gi_big_quiet_step (fail))
            refine wpQuietIn_nil ?_
            rintro _ ⟨nq, rfl⟩
            have r2n : BoxAt (Wb.drewN nq) _ _ _ := r2
            have r3n := r3.drewN nq
            have hB7 : w1.heap.size + 3 ≤ (Wb.drewN nq).heap.size := hwsz
            have hdh := fun W hW => w_RDropHead b gc gm room g s k' r W hW
            have hgl' : gone.length + (r.length + 1) ≤ 1000000 := hgl
            have rrn : BoxAt (Wb.drewN nq) _ _ _ := rr
            have rsn : BoxAt (Wb.drewN nq) _ _ _ := rs
            have hbn : Below w1.heap.size Wb (Wb.drewN nq) := ⟨rfl, rfl, rfl, Nat.le_refl _, fun _ _ => rfl⟩
            gi_wp2_with (first
              | (gi_at_builtin; refine wpListIn_appG (w := Wb.drewN nq) encL sl_strR [k'] rfl _ _ rfl rfl r3n #[S k'] rfl 0 rfl (by first | rfl | (simp [go_sem]; done)) (by omega) (by simp only [maxLen]; omega) (by omega) ?_; intro g' c' w5 hown5 hgr5 hb5; have q5 := r2n.kept hb5 (by omega); have c5 := q5.cell (j := 0) rfl; have f5 := q5.free 0; have rr6 := (rrn.kept hb5 (by omega)).setOther ⟨w1.heap.size, 0, none⟩ (by show w.heap.size ≠ w1.heap.size; omega) (.slice (some ⟨g', 0, none⟩) (gone.length + 1) c'); have cr6 := rr6.cell (j := 0) rfl; have rs6 := (rsn.kept hb5 (by omega)).setOther ⟨w1.heap.size, 0, none⟩ (by show w.heap.size + 1 ≠ w1.heap.size; omega) (.slice (some ⟨g', 0, none⟩) (gone.length + 1) c'); have hb6 := (hbn.trans (hb5.mono (by omega : w1.heap.size ≤ w1.heap.size + 3))).setCell (p := ⟨w1.heap.size, 0, none⟩) (Nat.le_refl _) (.slice (some ⟨g', 0, none⟩) (gone.length + 1) c'); have hrow6 := hrowb.but (Larder.Below.same hb6) (fun j hj => by have := hFlt j hj; show ¬ w1.heap.size ≤ j; omega))
              | (refine ⟨trivial, ?_⟩; gi_at_call 14; refine (CallsIn.inRound _ (callsIn_wide.2 (hdh _ hrow6))).mono ?_; rintro e w7 ⟨rfl, hrow7, hs7, p7, hbx7⟩))
            have hj := hj2.out
            have hn7 : ∀ j, w1.heap.size ≤ j → ¬ FRow b gc gm ((g, k', s) :: r) j := fun j h1 h2 => by have := hFlt j h2; omega
            have hw6 := hb6.size
            have hL6 : (w5.setCell ⟨w1.heap.size, 0, none⟩ (.slice (some ⟨g', 0, none⟩) (gone.length + 1) c')).heap[w1.heap.size + 1 + 1]? = some (.loop (rc .busy none)) := (heap_setCell_other _ _ _ _ (by show w1.heap.size + 1 + 1 ≠ w1.heap.size; omega)).trans ((hb5.block _ (by omega)).trans hL2)
            have hL7 := (hs7.block _ (by omega) (hn7 _ (by omega))).trans hL6
            have hl7 := (Array.getElem?_eq_some_iff.1 hL7).1
            have hs8 : SameBut (fun j => FRow b gc gm ((g, k', s) :: r) j ∨ w1.heap.size ≤ j) W (w7.putObj (w1.heap.size + 2) (.loop (rc .ready none))) :=
              (((hsb.mono (fun j _ hj => Or.inr (by omega))).trans (Larder.Below.same hb6) (fun j _ hj => .inr hj)).trans hs7 (fun j _ hj => .inl hj)).put _ _ (fun _ => .inr (by omega))
            have hth : thsL ((g, k', s) :: r) = (k', s) :: thsL r := rfl
            obtain ⟨pre, hpre⟩ := hj.suf
            have hF7 : ∀ j, FRow b gc gm ((g, k', s) :: r) j → FRow b gc gm L j := fun j hj => hF1 j (hj.suf hpre)
            have hn7' : ∀ j, w.heap.size ≤ j → ¬ FRow b gc gm ((g, k', s) :: r) j := fun j h1 h2 => absurd (h.lt (hF7 j h2)) (by omega)
            refine ⟨hL7, .inl ⟨rfl, ⟨gone ++ [k'], ⟨World.putObj_heap_same hl7, ?_, ⟨some ⟨g', 0, none⟩, c', ?_, ?_⟩, (hs7.box rr6 (hn7' _ (Nat.le_refl _))).put _ _ (by omega), (hs7.box rs6 (hn7' _ (Nat.le_succ _))).put _ _ (by omega), hrow7.but ((SameBut.refl (B := fun j => j = w1.heap.size + 2) w7).put _ _ (fun _ => rfl)) ?_, ?_, ⟨pre ++ [(g, k', s)], by rw [hpre]; simp⟩, by simp; omega, ?_⟩⟩, ⟨_, hbx7.put _ _ ?_⟩⟩⟩
            · exact (World.putObj_heap_other (by omega)).trans ((hs7.block _ (by omega) (hn7 _ (by omega))).trans ((heap_setCell_other _ _ _ _ (by show w1.heap.size + 1 ≠ w1.heap.size; omega)).trans ((hb5.block _ (by omega)).trans ((hsb.block _ (by omega) (by omega)).trans hj.dfr))))
            · rw [List.length_append]
              exact (hs7.box (q5.set 0 (.slice (some ⟨g', 0, none⟩) (gone.length + 1) c')) (hn7 _ (Nat.le_refl _))).put _ _ (by omega)
            · refine OwnL.put (hs7.own (hown5.keep fun a ha => heap_setCell_other _ _ _ _ (by have := (hown5.lt a ha).1; show a.block ≠ w1.heap.size; omega)) fun a ha => ?_) _ _ (by omega)
              have := (hown5.lt a ha).1
              exact hn7 _ (by omega)
            · intro j hj2 e
              have := hFlt j (by
                rcases hj2 with h | h | h | h
                · exact .inl h
                · exact .inr (.inl h)
                · exact .inr (.inr (.inl h))
                · exact .inr (.inr (.inr (List.mem_cons_of_mem _ h))))
              omega
            · rw [hj.sh, hth, shed_step (by rw [← hth, ← Hu.out]; omega)]
              simp
            · exact hj.same.trans hs8 (fun j hjw hj2 => by
                rcases hj2 with h | h
                · exact .inl (hF7 j h)
                · exact .inr (by omega))
            · have := hFlt g (.inr (.inr (.inr (by simp [bksL]))))
              omega
        obtain ⟨_, _, _, _, hrt⟩ := (hrow1.keep b3).ch.root
        refine (it_all (w1.heap.size + 2) gc _ _ hR L1 W1 hrt ⟨[], hPJ⟩).mono ?_
        rintro e W' ⟨hv, hres⟩
        have hFL : ∀ {lp gone rest W}, PJ w w1.heap.size b gc gm room n L L1 lp gone rest W → ∀ j, FRow b gc gm rest j → j < w1.heap.size := fun hj j hjj => by
          obtain ⟨pre, hpre⟩ := hj.suf
          exact hrow1.lt (hjj.suf hpre)
        rcases hres with ⟨gone, hj⟩ | ⟨gone, rest, hj, hfit⟩
        · obtain ⟨rest, hrest⟩ : ∃ rest : List Lnk, rest = [] := ⟨_, rfl⟩
          rw [← hrest] at hj
          have hfit : usedR (thsL rest) + n ≤ room := by rw [hrest]; simp [usedR, thsL]; omega
          have hFr := hFL hj
          clear hrest
          · skip
            have hX : PJ w w1.heap.size b gc gm room n L L1 (rc .exhausted none) gone rest (W'.putObj (w1.heap.size + 1 + 1) (.loop (rc .exhausted none))) := hj.but hszo hFr ((SameBut.refl W').put _ _ (fun _ => rfl)) (World.putObj_heap_same (by have := (Array.getElem?_eq_some_iff.1 hj.book).1; omega))
            have hbk := hj.book
            refine ⟨hv, .inl ⟨hbk, ?_⟩⟩
            obtain ⟨X, hXe⟩ : ∃ X, X = W'.putObj (w1.heap.size + 1 + 1) (.loop (rc .exhausted none)) := ⟨_, rfl⟩
            rw [← hXe] at hX ⊢
            clear hR y0 x0 b2 b3 hround hl hD hB hW1 hPJ hrt hj hbk hXe
            have cr := hX.br.cell (j := 0) rfl
            have cs := hX.bs.cell (j := 0) rfl
            have cg := hX.row.box.cell (j := 2) rfl
            have HX := Lib.hid hX
            have hkr : k ∉ keysR (thsL rest) := by obtain ⟨pre, hpre⟩ := hX.suf; exact suf_keys hkn1 hpre
            have hpu := fun XX (hh : ChAt XX gc gm rest) => w_push gc gm rest k n XX hh hkr
            have hch := hX.row.ch.drew
            have hne := hX.row.ch.ne hX.row.box
            have hbX := hX.row.box.drew
            have hrX := hX.br.drew
            have hsX := hX.bs.drew
            obtain ⟨Ao, co, bo, ow⟩ := hX.out
            have bo1 := bo.drew
            have hFw : ∀ j, FRow b gc gm rest j → FRow b gc gm L j := fun j hj => by
              obtain ⟨pre, hpre⟩ := hX.suf
              exact hF1 j (hj.suf hpre)
            have hdX := hX.dfr
            have hXs : w1.heap.size + 3 ≤ X.heap.size := by have := (Array.getElem?_eq_some_iff.1 hX.book).1; omega
            clear hX
            gi_wp2_with fail
            refine (wpIn_wide (n := 8)).2 ?_
            refine wp_region_still_tail 6 (by kernel_rfl) (by kernel_rfl) ?_
            simp only [List.take_succ_cons, List.take_zero, List.drop_succ_cons, List.drop_zero]
            repeat still_step
            try refine wpStill_nil ?_
            change wpList _ _ _ _ _ X.drew
            go_wp2_with (go_at_call 33; refine Calls.mono (hpu X.drew hch) ?_; rintro e w8 ⟨rfl, ⟨g8, hch8, hg8⟩, hs8⟩)
            have hb8 := hs8.box hbX hne
            have hr8 := hs8.box hrX (fun hc => by have := h.lt (hFw _ (.inr hc)); omega)
            have hs8' := hs8.box hsX (fun hc => by have := h.lt (hFw _ (.inr hc)); omega)
            have cr8 := hr8.cell (j := 0) rfl
            have cs8 := hs8'.cell (j := 0) rfl
            have cu8 := hb8.cell (j := 1) rfl
            have fu8 := hb8.free 1
            obtain ⟨u, hu⟩ : ∃ u, u = usedR (thsL rest) := ⟨_, rfl⟩
            rw [← hu] at cu8 hfit
            have hw64 : IntKind.i64.wrap ((u : Int) + (n : Int)) = (u : Int) + (n : Int) := IntWalk.i64_in _ ⟨by omega, by omega⟩
            have Hu := Lib.hid hu
            clear hu
            gi_wp2_with fail
            refine (wpIn_wide (n := 8)).2 ?_
            go_region
            have hnC : ∀ j, w1.heap.size ≤ j → ¬ FC gc gm rest j := fun j h1 h2 => by have := hFr j (.inr h2); omega
            have hbw := h.box.lt
            have bo8 := (hs8.box bo1 (hnC _ (Nat.le_refl _)))
            have bo9 := (bo8.setOther ⟨b, 1, none⟩ (by show w1.heap.size ≠ b; omega) (.int .i64 ((u : Int) + (n : Int)))).drew
            have co9 := bo9.cell (j := 0) rfl
            have co9' : w8.cell? ⟨w1.heap.size, 0, none⟩ = _ := bo8.cell (j := 0) rfl
            have hD9 : ((w8.setCell ⟨b, 1, none⟩ (.int .i64 ((u : Int) + (n : Int)))).drew).heap[w1.heap.size + 1]? = some (.deferred (some [])) :=
              (heap_setCell_other _ _ _ _ (by show w1.heap.size + 1 ≠ b; omega)).trans ((hs8.block _ (by show w1.heap.size + 1 < X.heap.size; omega) (hnC _ (by omega))).trans hdX)
            gi_wp2
            refine ⟨by simp, .inl ⟨_, _, rfl, run_takeDeferred hD9, ?_⟩⟩
            refine ⟨_, results_tmp2 rfl _ _ _, ?_⟩
            have hgone : goneR room n k (thsL L) = gone := by
              rw [goneR, ← hth1, HX.out.sh, shed_stop (by rw [← Hu.out]; exact hfit)]; simp
            have hput : putR room n k (thsL L) = thsL rest ++ [(k, n)] := by
              rw [putR, ← hth1, HX.out.sh, shed_stop (by rw [← Hu.out]; exact hfit)]
            have hsz8 : X.heap.size ≤ w8.heap.size := hs8.size
            have hth9 : thsL (rest ++ [(g8, k, n)]) = thsL rest ++ [(k, n)] := by simp [thsL]
            have hus : usedR (thsL (rest ++ [(g8, k, n)])) = u + n := by
              rw [hth9, usedR_append, ← Hu.out]; simp [usedR]
            have hsZ : SameBut (fun j => j = b ∨ j = w1.heap.size + 1) w8 (((w8.setCell ⟨b, 1, none⟩ (.int .i64 ((u : Int) + (n : Int)))).drew).putObj (w1.heap.size + 1) (.deferred none)) :=
              (((SameBut.refl (B := fun j => j = b ∨ j = w1.heap.size + 1) w8).setCell _ _ (fun _ => .inl rfl)).drew).put _ _ (fun _ => .inr rfl)
            have hFC8 : ∀ j, FC gc gm (rest ++ [(g8, k, n)]) j → FC gc gm rest j ∨ w1.heap.size + 3 ≤ j := fun j hj => by
              rcases hj with h | h | h
              · exact .inl (.inl h)
              · exact .inl (.inr (.inl h))
              · rw [bksL_app, List.mem_append] at h
                rcases h with h | h
                · exact .inl (.inr (.inr h))
                · right
                  have h1 : j = g8 := by simpa [bksL] using h
                  have h2 : X.heap.size ≤ g8 := hg8
                  omega
            have hsame : SameBut (FRow b gc gm L) w (((w8.setCell ⟨b, 1, none⟩ (.int .i64 ((u : Int) + (n : Int)))).drew).putObj (w1.heap.size + 1) (.deferred none)) := by
              refine ((((HX.out.same.drew).trans (hs8) (fun j _ hj => .inl (hFw j (.inr hj)))).trans hsZ (fun j _ hj => ?_)).mono (fun j hjw hj => ?_))
              · rcases hj with rfl | rfl
                · exact .inl (.inl rfl)
                · exact .inr (by omega)
              · rcases hj with hj | hj
                · exact hj
                · omega
            refine .inr (.inr ⟨n, rfl, by omega, by omega, Ao, co, by rw [hgone]; rfl, ?_, ⟨rest ++ [(g8, k, n)], ⟨?_, ?_, by rw [hus]; exact hfit, hrm, ?_⟩, by rw [hth9, hput], hsame, ?_⟩⟩)
            · rw [hgone]
              refine OwnL.base_le (hsZ.own (hs8.own ow.drew fun a ha => ?_) fun a ha => ?_) (by omega : w.heap.size ≤ w1.heap.size + 3)
              · have := (ow.lt a ha).1
                exact hnC _ (by omega)
              · have := (ow.lt a ha).1
                omega
            · rw [hus]
              have hb9 := ((hb8.set 1 (.int .i64 ((u : Int) + (n : Int)))).drew).put (w1.heap.size + 1) (.deferred none) (by omega)
              exact hb9
            · refine hch8.but hsZ fun j hj hj2 => ?_
              rcases hj2 with rfl | rfl
              · rcases hFC8 _ hj with h1 | h1
                · exact hne h1
                · omega
              · rcases hFC8 _ hj with h1 | h1
                · exact hnC _ (by omega) h1
                · omega
            · intro t ht
              rw [hth9] at ht
              rcases List.mem_append.1 ht with ht | ht
              · exact HX.out.row.ps t ht
              · simp only [List.mem_singleton] at ht
                subst ht
                show 1 ≤ n
                omega
            · intro j hj
              rcases hj with h1 | h1
              · exact .inl (.inl h1)
              · rcases hFC8 j h1 with h1 | h1
                · exact .inl (hFw j (.inr h1))
                · exact .inr (by omega)
        · have hFr := hFL hj
          · skip
            have hX : PJ w w1.heap.size b gc gm room n L L1 (rc .exhausted (some (.exit 1))) gone rest (W'.putObj (w1.heap.size + 1 + 1) (.loop (rc .exhausted (some (.exit 1))))) := hj.but hszo hFr ((SameBut.refl W').put _ _ (fun _ => rfl)) (World.putObj_heap_same (by have := (Array.getElem?_eq_some_iff.1 hj.book).1; omega))
            have hbk := hj.book
            refine ⟨hv, .inr ⟨_, hbk, ?_⟩⟩
            obtain ⟨X, hXe⟩ : ∃ X, X = W'.putObj (w1.heap.size + 1 + 1) (.loop (rc .exhausted (some (.exit 1)))) := ⟨_, rfl⟩
            rw [← hXe] at hX ⊢
            clear hR y0 x0 b2 b3 hround hl hD hB hW1 hPJ hrt hj hbk hXe
            have cr := hX.br.cell (j := 0) rfl
            have cs := hX.bs.cell (j := 0) rfl
            have cg := hX.row.box.cell (j := 2) rfl
            have HX := Lib.hid hX
            have hkr : k ∉ keysR (thsL rest) := by obtain ⟨pre, hpre⟩ := hX.suf; exact suf_keys hkn1 hpre
            have hpu := fun XX (hh : ChAt XX gc gm rest) => w_push gc gm rest k n XX hh hkr
            have hch := hX.row.ch.drew
            have hne := hX.row.ch.ne hX.row.box
            have hbX := hX.row.box.drew
            have hrX := hX.br.drew
            have hsX := hX.bs.drew
            obtain ⟨Ao, co, bo, ow⟩ := hX.out
            have bo1 := bo.drew
            have hFw : ∀ j, FRow b gc gm rest j → FRow b gc gm L j := fun j hj => by
              obtain ⟨pre, hpre⟩ := hX.suf
              exact hF1 j (hj.suf hpre)
            have hdX := hX.dfr
            have hXs : w1.heap.size + 3 ≤ X.heap.size := by have := (Array.getElem?_eq_some_iff.1 hX.book).1; omega
            clear hX
            gi_wp2_with fail
            refine (wpIn_wide (n := 8)).2 ?_
            refine wp_region_still_tail 6 (by kernel_rfl) (by kernel_rfl) ?_
            simp only [List.take_succ_cons, List.take_zero, List.drop_succ_cons, List.drop_zero]
            repeat still_step
            try refine wpStill_nil ?_
            change wpList _ _ _ _ _ X.drew
            go_wp2_with (go_at_call 33; refine Calls.mono (hpu X.drew hch) ?_; rintro e w8 ⟨rfl, ⟨g8, hch8, hg8⟩, hs8⟩)
            have hb8 := hs8.box hbX hne
            have hr8 := hs8.box hrX (fun hc => by have := h.lt (hFw _ (.inr hc)); omega)
            have hs8' := hs8.box hsX (fun hc => by have := h.lt (hFw _ (.inr hc)); omega)
            have cr8 := hr8.cell (j := 0) rfl
            have cs8 := hs8'.cell (j := 0) rfl
            have cu8 := hb8.cell (j := 1) rfl
            have fu8 := hb8.free 1
            obtain ⟨u, hu⟩ : ∃ u, u = usedR (thsL rest) := ⟨_, rfl⟩
            rw [← hu] at cu8 hfit
            have hw64 : IntKind.i64.wrap ((u : Int) + (n : Int)) = (u : Int) + (n : Int) := IntWalk.i64_in _ ⟨by omega, by omega⟩
            have Hu := Lib.hid hu
            clear hu
            gi_wp2_with fail
            refine (wpIn_wide (n := 8)).2 ?_
            go_region
            have hnC : ∀ j, w1.heap.size ≤ j → ¬ FC gc gm rest j := fun j h1 h2 => by have := hFr j (.inr h2); omega
            have hbw := h.box.lt
            have bo8 := (hs8.box bo1 (hnC _ (Nat.le_refl _)))
            have bo9 := (bo8.setOther ⟨b, 1, none⟩ (by show w1.heap.size ≠ b; omega) (.int .i64 ((u : Int) + (n : Int)))).drew
            have co9 := bo9.cell (j := 0) rfl
            have co9' : w8.cell? ⟨w1.heap.size, 0, none⟩ = _ := bo8.cell (j := 0) rfl
            have hD9 : ((w8.setCell ⟨b, 1, none⟩ (.int .i64 ((u : Int) + (n : Int)))).drew).heap[w1.heap.size + 1]? = some (.deferred (some [])) :=
              (heap_setCell_other _ _ _ _ (by show w1.heap.size + 1 ≠ b; omega)).trans ((hs8.block _ (by show w1.heap.size + 1 < X.heap.size; omega) (hnC _ (by omega))).trans hdX)
            gi_wp2
            refine ⟨by simp, .inl ⟨_, _, rfl, run_takeDeferred hD9, ?_⟩⟩
            refine ⟨_, results_tmp2 rfl _ _ _, ?_⟩
            have hgone : goneR room n k (thsL L) = gone := by
              rw [goneR, ← hth1, HX.out.sh, shed_stop (by rw [← Hu.out]; exact hfit)]; simp
            have hput : putR room n k (thsL L) = thsL rest ++ [(k, n)] := by
              rw [putR, ← hth1, HX.out.sh, shed_stop (by rw [← Hu.out]; exact hfit)]
            have hsz8 : X.heap.size ≤ w8.heap.size := hs8.size
            have hth9 : thsL (rest ++ [(g8, k, n)]) = thsL rest ++ [(k, n)] := by simp [thsL]
            have hus : usedR (thsL (rest ++ [(g8, k, n)])) = u + n := by
              rw [hth9, usedR_append, ← Hu.out]; simp [usedR]
            have hsZ : SameBut (fun j => j = b ∨ j = w1.heap.size + 1) w8 (((w8.setCell ⟨b, 1, none⟩ (.int .i64 ((u : Int) + (n : Int)))).drew).putObj (w1.heap.size + 1) (.deferred none)) :=
              (((SameBut.refl (B := fun j => j = b ∨ j = w1.heap.size + 1) w8).setCell _ _ (fun _ => .inl rfl)).drew).put _ _ (fun _ => .inr rfl)
            have hFC8 : ∀ j, FC gc gm (rest ++ [(g8, k, n)]) j → FC gc gm rest j ∨ w1.heap.size + 3 ≤ j := fun j hj => by
              rcases hj with h | h | h
              · exact .inl (.inl h)
              · exact .inl (.inr (.inl h))
              · rw [bksL_app, List.mem_append] at h
                rcases h with h | h
                · exact .inl (.inr (.inr h))
                · right
                  have h1 : j = g8 := by simpa [bksL] using h
                  have h2 : X.heap.size ≤ g8 := hg8
                  omega
            have hsame : SameBut (FRow b gc gm L) w (((w8.setCell ⟨b, 1, none⟩ (.int .i64 ((u : Int) + (n : Int)))).drew).putObj (w1.heap.size + 1) (.deferred none)) := by
              refine ((((HX.out.same.drew).trans (hs8) (fun j _ hj => .inl (hFw j (.inr hj)))).trans hsZ (fun j _ hj => ?_)).mono (fun j hjw hj => ?_))
              · rcases hj with rfl | rfl
                · exact .inl (.inl rfl)
                · exact .inr (by omega)
              · rcases hj with hj | hj
                · exact hj
                · omega
            refine .inr (.inr ⟨n, rfl, by omega, by omega, Ao, co, by rw [hgone]; rfl, ?_, ⟨rest ++ [(g8, k, n)], ⟨?_, ?_, by rw [hus]; exact hfit, hrm, ?_⟩, by rw [hth9, hput], hsame, ?_⟩⟩)
            · rw [hgone]
              refine OwnL.base_le (hsZ.own (hs8.own ow.drew fun a ha => ?_) fun a ha => ?_) (by omega : w.heap.size ≤ w1.heap.size + 3)
              · have := (ow.lt a ha).1
                exact hnC _ (by omega)
              · have := (ow.lt a ha).1
                omega
            · rw [hus]
              have hb9 := ((hb8.set 1 (.int .i64 ((u : Int) + (n : Int)))).drew).put (w1.heap.size + 1) (.deferred none) (by omega)
              exact hb9
            · refine hch8.but hsZ fun j hj hj2 => ?_
              rcases hj2 with rfl | rfl
              · rcases hFC8 _ hj with h1 | h1
                · exact hne h1
                · omega
              · rcases hFC8 _ hj with h1 | h1
                · exact hnC _ (by omega) h1
                · omega
            · intro t ht
              rw [hth9] at ht
              rcases List.mem_append.1 ht with ht | ht
              · exact HX.out.row.ps t ht
              · simp only [List.mem_singleton] at ht
                subst ht
                show 1 ≤ n
                omega
            · intro j hj
              rcases hj with h1 | h1
              · exact .inl (.inl h1)
              · rcases hFC8 j h1 with h1 | h1
                · exact .inl (hFw j (.inr h1))
                · exact .inr (by omega)
end Go.Proofs.Ytbchkaoocobpfaa
