/- Walks: rows: the chain: made, one more link, one taken out. -/
import Derived.Test.YtbchkaoocobpfaaRing
import Derived.Test.YtbchkaoocobpfaaChecked
import Derived.Lib.Walk
import Derived.Lib.Hide
import Derived.Laws.Externs
import Derived.RegionTactic
import Derived.ChangeAlike
namespace Go.Proofs.Ytbchkaoocobpfaa
open Go.RowKit Go.Larder
set_option linter.unusedVariables false
set_option linter.unusedSimpArgs false
abbrev TC : TypeId := 110
abbrev TL : TypeId := 108
/-- a chain: its ring and its map -/
def ChAt (w : World) (gc gm : Nat) (L : List Lnk) : Prop := ∃ nx pv, Lks 110 108 w gc gm nx pv L ∧ Cyc nx pv gc (bksL L) ∧ MapAt w gm (mapL L)
/-- the blocks of a chain -/
def FC (gc gm : Nat) (L : List Lnk) (j : Nat) : Prop := j = gc ∨ j = gm ∨ j ∈ bksL L
theorem w_newChain (w : World) : Calls Try.prog 29 #[] w fun e w' => e = .returned (pg (w.heap.size + 1)) ∧ ChAt w' (w.heap.size + 1) w.heap.size [] ∧ Below w.heap.size w w' := by
  have hm := MapAt.made w
  have bx := BoxAt.new (w.alloc (.map #[] 0)) [S [], .int .i64 0, .pointer none, .pointer none, .map (some w.heap.size)] 110
  rw [World.size_alloc] at bx
  have hm2 := hm.alloc (.cells #[S [], .int .i64 0, .pointer none, .pointer none, .map (some w.heap.size)] 110)
  have hB := ((Below.refl w.heap.size w).alloc (Nat.le_refl _) (.map #[] 0)).alloc (by simp) (.cells #[S [], .int .i64 0, .pointer none, .pointer none, .map (some w.heap.size)] 110)
  have hmm := @run_makeMap Try.prog
  go_enter Try.func29, Try.ntmps29
  go_wp2_with fail
  have f2 := bx.free 2
  have f3 := bx.free 3
  have c2 := bx.cell (j := 2) rfl
  have c3 := bx.cell (j := 3) rfl
  go_region
  go_wp2
  go_ret
  have b2 := BoxAt.new (w.alloc (.map #[] 0)) [S [], .int .i64 0, pg (w.heap.size + 1), pg (w.heap.size + 1), .map (some w.heap.size)] 110
  rw [World.size_alloc] at b2
  have m2 := hm.alloc (.cells #[S [], .int .i64 0, pg (w.heap.size + 1), pg (w.heap.size + 1), .map (some w.heap.size)] 110)
  have hB2 := ((Below.refl w.heap.size w).alloc (Nat.le_refl _) (.map #[] 0)).alloc (by simp) (.cells #[S [], .int .i64 0, pg (w.heap.size + 1), pg (w.heap.size + 1), .map (some w.heap.size)] 110)
  exact ⟨rfl, ⟨fun _ => w.heap.size + 1, fun _ => w.heap.size + 1, ⟨b2.drew, fun t ht => (by cases ht), by simp [bksL]⟩, ⟨rfl, rfl, trivial⟩, m2.drew⟩, hB2.drew⟩
theorem Lks.gm_ne {w : World} {gc gm : Nat} {nx pv : Nat → Nat} {L : List Lnk} {m : List (List UInt8 × Value)} (h : Lks 110 108 w gc gm nx pv L) (hm : MapAt w gm m) : gm ∉ gc :: bksL L := by
  intro hc
  rcases List.mem_cons.1 hc with e | e
  · exact hm.box_ne h.root e
  · obtain ⟨t, ht, e⟩ := mem_bks e
    exact hm.box_ne (h.link t ht) e.symm
theorem idx_none {L : List Lnk} {k : List UInt8} (hk : k ∉ keysR (thsL L)) : idxM (mapL L) k = none := by
  have h1 : k ∉ keysM (mapL L) := by
    intro h
    apply hk
    simpa [keysM, mapL, keysR, thsL] using h
  have h2 := getM_none.2 h1
  rw [getM_idx] at h2
  simpa using h2
set_option maxHeartbeats 2000000 in
theorem w_push (gc gm : Nat) (L : List Lnk) (k : List UInt8) (s : Nat) (w : World) (h : ChAt w gc gm L) (hk : k ∉ keysR (thsL L)) :
    Calls Try.prog 33 #[pg gc, S k, .int .i64 (s : Int)] w fun e w' => e = .returned (.tuple #[]) ∧ (∃ g, ChAt w' gc gm (L ++ [(g, k, s)]) ∧ w.heap.size ≤ g) ∧ SameBut (FC gc gm L) w w' := by
  obtain ⟨nx, pv, hl, hc, hm⟩ := h
  have c2 := hl.pvAt (x := gc) (by simp)
  obtain ⟨i, p, he⟩ := snoc_of gc (bksL L)
  have hp : p ∈ gc :: bksL L := by rw [he]; simp
  have hpv := (hc.last he).1
  have hg : w.heap.size ∉ gc :: bksL L := fun h => absurd (hl.lt h) (by omega)
  have hgm := Lks.gm_ne hl hm
  have bx := (BoxAt.new w [S k, .int .i64 (s : Int), pg p, pg gc] 108).drew
  have hl1 := ((hl.alloc (.cells [S k, .int .i64 (s : Int), pg p, pg gc].toArray 108)).drew).more k s hg bx
  have hm1 := (hm.alloc (.cells [S k, .int .i64 (s : Int), pg p, pg gc].toArray 108)).drew
  have hcy := hc.push hl.nd hg
  have hs1 : SameBut (FC gc gm L) w (w.alloc (.cells [S k, .int .i64 (s : Int), pg p, pg gc].toArray 108)).drew := ((SameBut.refl w).alloc _).drew
  rw [hpv] at c2 hcy
  have hpm : ∀ x ∈ gc :: bksL L, x ∈ gc :: bksL (L ++ [(w.heap.size, k, s)]) := fun x hx => by
    have : gc :: bksL (L ++ [(w.heap.size, k, s)]) = (gc :: bksL L) ++ [w.heap.size] := by simp [bksL]
    rw [this]; simp only [List.mem_append]; exact .inl hx
  go_enter Try.func33, Try.ntmps33
  go_wp2_with fail
  go_region
  go_wp2
  have b2 := bx.cell (j := 2) rfl
  have b3 := bx.cell (j := 3) rfl
  have n3 := hl1.nxAt (hpm p hp)
  have n2 := hl1.pvAt (hpm gc (by simp))
  have f3 := hl1.freeAt (hpm p hp) 3
  have f2 := hl1.freeAt (hpm gc (by simp)) 2
  have m3 : (w.alloc (.cells #[S k, .int .i64 (s : Int), pg p, pg gc] 108)).cell? ⟨p, 3, none⟩ = some (pg _) := n3
  have m2 : (w.alloc (.cells #[S k, .int .i64 (s : Int), pg p, pg gc] 108)).cell? ⟨gc, 2, none⟩ = some (pg _) := n2
  have g3 : (w.alloc (.cells #[S k, .int .i64 (s : Int), pg p, pg gc] 108)).frozen? ⟨p, 3, none⟩ = false := f3
  have g2 : (w.alloc (.cells #[S k, .int .i64 (s : Int), pg p, pg gc] 108)).frozen? ⟨gc, 2, none⟩ = false := f2
  go_region
  have hl2 := (((hl1.setN (hpm p hp) w.heap.size).setP (hpm gc (by simp)) w.heap.size)).drew
  have hm2 := ((hm1.setCell ⟨p, 3, none⟩ (fun e => hgm (by rw [e]; exact hp)) (pg w.heap.size)).setCell ⟨gc, 2, none⟩ (fun e => hgm (by rw [e]; simp)) (pg w.heap.size)).drew
  have c4 : (w.alloc (.cells #[S k, .int .i64 (s : Int), pg p, pg gc] 108)).cell? ⟨gc, 4, none⟩ = some (.map (some gm)) := hl1.root.cell (j := 4) rfl
  have hs2 := ((hs1.setCell ⟨p, 3, none⟩ (pg w.heap.size) (fun _ => by rcases List.mem_cons.1 hp with h | h; exact .inl h; exact .inr (.inr h))).setCell ⟨gc, 2, none⟩ (pg w.heap.size) (fun _ => .inl rfl)).drew
  go_wp2_with (at_mapUpdate; refine wpList_mapPut rfl _ _ _ rfl Try.underlying105 Try.underlying9 rfl hm2 k rfl (pg w.heap.size) rfl ?_; intro w3 hm3 hs3)
  go_end0
  have hbl : bksL (L ++ [(w.heap.size, k, s)]) = bksL L ++ [w.heap.size] := by simp [bksL]
  have hne3 : ∀ x ∈ gc :: bksL (L ++ [(w.heap.size, k, s)]), ¬ x = gm := fun x hx e => by
    rw [hbl, ← List.cons_append] at hx
    rcases List.mem_append.1 hx with h | h
    · exact hgm (e ▸ h)
    · simp only [List.mem_singleton] at h
      have := hm.lt
      omega
  refine ⟨rfl, ⟨w.heap.size, ⟨_, _, hl2.but hs3 hne3, ?_, ?_⟩, Nat.le_refl _⟩, hs2.trans hs3 (fun j _ hj => .inr (.inl hj))⟩
  · rw [hbl]; exact hcy
  · rw [putM_new (idx_none hk)] at hm3
    have : mapL (L ++ [(w.heap.size, k, s)]) = mapL L ++ [(k, pg w.heap.size)] := by simp [mapL]
    rw [this]; exact hm3
/-- what take leaves -/
def TakeP (w : World) (gc gm : Nat) (L : List Lnk) (k : List UInt8) (e : Ending) (w' : World) : Prop :=
  (takeR k (thsL L) = none ∧ e = .returned (.tuple #[.int .i64 0, .bool false]) ∧ w' = w) ∨
  (∃ a g s b, L = a ++ (g, k, s) :: b ∧ takeR k (thsL L) = some ((k, s), thsL (a ++ b)) ∧ e = .returned (.tuple #[.int .i64 (s : Int), .bool true]) ∧ ChAt w' gc gm (a ++ b) ∧ SameBut (FC gc gm L) w w' ∧
    ∃ p, BoxAt w' g 108 [S k, .int .i64 (s : Int), pg p, pg (hd1 gc (bksL b))])
theorem lookL (w : World) : (zeroValue 106).run Try.prog w = .ok (.pointer none) w := by kernel_rfl
set_option maxHeartbeats 4000000 in
set_option maxRecDepth 100000 in
theorem w_take (gc gm : Nat) (L : List Lnk) (k : List UInt8) (w : World) (h : ChAt w gc gm L) :
    Calls Try.prog 36 #[pg gc, S k] w (TakeP w gc gm L k) := by
  obtain ⟨nx, pv, hl, hc, hm⟩ := h
  have hgm := Lks.gm_ne hl hm
  have c4 := hl.root.cell (j := 4) rfl
  rcases find_ring L k with ⟨a, g, s, b, hL, ht, hg, hd⟩ | ⟨ht, hg⟩
  · have hlk := run_lookup_S (P := Try.prog) (i := 0) Try.underlying105 Try.underlying9 hm k false hg
    have hgL : g ∈ gc :: bksL L := by rw [hL]; simp [bksL]
    have hlt : (g, k, s) ∈ L := by rw [hL]; simp
    have hbx := hl.link _ hlt
    obtain ⟨hcy, hpm, hnn⟩ := Cyc.take (nx := nx) (pv := pv) (gc := gc) (g := g) (a := bksL a) (b := bksL b) (by rw [hL] at hc; simpa [bksL] using hc) (by have := hl.nd; rw [hL] at this; simpa [bksL] using this)
    have hb2 := hbx.cell (j := 2) rfl
    have hb3 := hbx.cell (j := 3) rfl
    have hb1 := hbx.cell (j := 1) rfl
    obtain ⟨p, hp⟩ : ∃ p, p = pv g := ⟨_, rfl⟩
    obtain ⟨n, hn⟩ : ∃ n, n = nx g := ⟨_, rfl⟩
    have hgn : g ∉ bksL a ∧ g ∉ bksL b ∧ g ≠ gc := by
      have hnd := hl.nd
      rw [hL] at hnd
      simp only [bksL, List.map_append, List.map_cons, List.nodup_cons, List.mem_append, List.mem_cons, not_or, List.nodup_append] at hnd
      obtain ⟨⟨_, hg2, _⟩, _, ⟨hg3, _⟩, hg4⟩ := hnd
      exact ⟨fun h => hg4 g h g (.inl rfl) rfl, hg3, fun h => hg2 h.symm⟩
    have hpL : p ∈ gc :: bksL L := by
      rw [hp]
      rcases hpm with h | h
      · rw [h]; simp
      · rw [hL, bksL_app]; simp [h]
    have hnL : n ∈ gc :: bksL L := by
      rw [hn, hnn, hL]
      cases b with
      | nil => simp [bksL, hd1]
      | cons t b => simp [bksL, hd1]
    have hpg : g ≠ p := by
      rw [hp]
      rintro e
      rcases hpm with h | h
      · exact hgn.2.2 (e.trans h)
      · rw [← e] at h; exact hgn.1 h
    have hng : g ≠ n := by
      rw [hn, hnn]
      rintro e
      cases hb : bksL b with
      | nil => rw [hb] at e; exact hgn.2.2 e
      | cons x y => rw [hb] at e; exact hgn.2.1 (by rw [hb, e]; simp [hd1])
    have n3 := hl.nxAt hpL
    have n2 := hl.pvAt hnL
    have f3 := hl.freeAt hpL 3
    have f2 := hl.freeAt hnL 2
    have hl2 := ((hl.setN hpL n).setP hnL p).drew
    have hm2 := ((hm.setCell ⟨p, 3, none⟩ (fun e => hgm (by rw [e]; exact hpL)) (pg n)).setCell ⟨n, 2, none⟩ (fun e => hgm (by rw [e]; exact hnL)) (pg p)).drew
    have hFC : ∀ x ∈ gc :: bksL L, FC gc gm L x := fun x hx => by rcases List.mem_cons.1 hx with h | h; exact .inl h; exact .inr (.inr h)
    have hs2 := (((SameBut.refl w).setCell ⟨p, 3, none⟩ (pg n) (fun _ => hFC p hpL)).setCell ⟨n, 2, none⟩ (pg p) (fun _ => hFC n hnL)).drew
    have hbx2 := ((hbx.setOther ⟨p, 3, none⟩ hpg (pg n)).setOther ⟨n, 2, none⟩ hng (pg p)).drew
    simp only at hbx hb1 hb2 hb3 hbx2
    rw [← hp, ← hn] at hbx2 hcy
    rw [← hp] at hb2
    rw [← hn] at hb3
    have hbx1 := hbx2.cell (j := 1) rfl
    have Hn := Lib.hid hn
    have Hnn := Lib.hid hnn
    have HL := Lib.hid hL
    have hgg : ¬ g = gm := fun e => hgm (by rw [← e]; exact hgL)
    clear hn hp hnn hpm hL
    go_enter Try.func36, Try.ntmps36
    go_wp2_with fail
    go_region
    go_wp2_with (at_delete; refine wpList_mapDel rfl _ _ rfl Try.underlying105 Try.underlying9 rfl hm2 k rfl ?_; intro w3 hm3 hs3; have bx3 := hs3.box hbx2 hgg; have q1 := bx3.cell (j := 1) rfl)
    go_ret2
    have hL := HL.out
    have hl3 := hl2.but hs3 (fun x hx e => hgm (e ▸ hx))
    rw [hL] at hl3
    rw [hd] at hm3
    refine .inr ⟨a, g, s, b, hL, ht, rfl, ⟨_, _, hl3.less, by rw [bksL_app]; exact hcy, hm3⟩, hs2.trans hs3 (fun j _ hj => .inr (.inl hj)), p, ?_⟩
    rw [← Hnn.out, ← Hn.out]
    exact bx3
  · have hlk := run_lookup_none (P := Try.prog) Try.underlying105 Try.underlying9 hm k false (lookL w) hg
    go_enter Try.func36, Try.ntmps36
    go_wp2_with fail
    go_ret2
    exact .inl ⟨ht, rfl, rfl⟩
end Go.Proofs.Ytbchkaoocobpfaa
