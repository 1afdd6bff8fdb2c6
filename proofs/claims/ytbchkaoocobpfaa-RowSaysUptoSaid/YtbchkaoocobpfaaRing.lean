/- A ring of links: who is next, who was before; one more behind all, one taken out. No program in sight. -/
import Derived.Test.YtbchkaoocobpfaaMapA
import Derived.Test.YtbchkaoocobpfaaSpecRow
namespace Go.Larder
open Go.RowKit
set_option linter.unusedVariables false
set_option linter.unusedSimpArgs false
section plain
def upd (f : Nat → Nat) (a v : Nat) : Nat → Nat := fun x => if x = a then v else f x
theorem upd_same (f : Nat → Nat) (a v : Nat) : upd f a v a = v := if_pos rfl
theorem upd_ne (f : Nat → Nat) {a x : Nat} (v : Nat) (h : x ≠ a) : upd f a v x = f x := if_neg h
/-- each one's next is the one behind it, and back -/
def Nx (nx pv : Nat → Nat) : List Nat → Prop
  | a :: b :: r => nx a = b ∧ pv b = a ∧ Nx nx pv (b :: r)
  | _ => True
variable {nx pv nx' pv' : Nat → Nat}
theorem Nx.split : ∀ {a : List Nat} {x : Nat} {b : List Nat}, Nx nx pv (a ++ x :: b) ↔ Nx nx pv (a ++ [x]) ∧ Nx nx pv (x :: b)
  | [], x, b => by simp [Nx]
  | [y], x, b => by simp [Nx, and_assoc]
  | y :: z :: a, x, b => by
    have := Nx.split (a := z :: a) (x := x) (b := b)
    simp only [List.cons_append] at this ⊢
    simp only [Nx, this, and_assoc]
theorem Nx.congr : ∀ {l : List Nat}, Nx nx pv l → (∀ x ∈ l.dropLast, nx' x = nx x) → (∀ x ∈ l.tail, pv' x = pv x) → Nx nx' pv' l
  | [], _, _, _ => trivial
  | [_], _, _, _ => trivial
  | a :: b :: r, h, h1, h2 => by
    refine ⟨(h1 a (by simp)).trans h.1, (h2 b (by simp)).trans h.2.1, Nx.congr h.2.2 (fun x hx => h1 x ?_) fun x hx => h2 x ?_⟩
    · rw [List.dropLast_cons_of_ne_nil (by simp)]; exact List.mem_cons_of_mem _ hx
    · simp only [List.tail_cons] at hx ⊢; exact List.mem_cons_of_mem _ hx
/-- the first of these, or the root -/
def hd1 (gc : Nat) : List Nat → Nat
  | [] => gc
  | b :: _ => b
def Cyc (nx pv : Nat → Nat) (gc : Nat) (bs : List Nat) : Prop := Nx nx pv (gc :: (bs ++ [gc]))
theorem Cyc.nil {gc : Nat} (h1 : nx gc = gc) (h2 : pv gc = gc) : Cyc nx pv gc [] := ⟨h1, h2, trivial⟩
theorem Cyc.first {gc : Nat} {bs : List Nat} (h : Cyc nx pv gc bs) : nx gc = hd1 gc bs := by
  cases bs with
  | nil => exact h.1
  | cons b r => exact h.1
theorem snoc_of (gc : Nat) (bs : List Nat) : ∃ i p, gc :: bs = i ++ [p] := by
  exact ⟨(gc :: bs).dropLast, (gc :: bs).getLast (by simp), (List.dropLast_concat_getLast (by simp)).symm⟩
theorem Cyc.last {gc : Nat} {bs i : List Nat} {p : Nat} (h : Cyc nx pv gc bs) (he : gc :: bs = i ++ [p]) : pv gc = p ∧ nx p = gc := by
  unfold Cyc at h
  rw [← List.cons_append, he, List.append_assoc] at h
  have := (Nx.split.1 h).2
  exact ⟨this.2.1, this.1⟩
theorem Cyc.push {gc l : Nat} {bs : List Nat} (h : Cyc nx pv gc bs) (hn : (gc :: bs).Nodup) (hl : l ∉ gc :: bs) :
    Cyc (upd (upd nx l gc) (pv gc) l) (upd (upd pv l (pv gc)) gc l) gc (bs ++ [l]) := by
  obtain ⟨i, p, he⟩ := snoc_of gc bs
  have hp := (h.last he).1
  rw [hp]
  unfold Cyc at h ⊢
  have e1 : gc :: (bs ++ [l] ++ [gc]) = i ++ p :: [l, gc] := by
    rw [← List.cons_append, ← List.cons_append, he]; simp
  rw [e1]
  rw [← List.cons_append, he, List.append_assoc] at h
  have h1 := (Nx.split.1 h).1
  have hn' : (i ++ [p]).Nodup := by rw [← he]; exact hn
  have hpi : p ∉ i := by
    have := (List.nodup_append.1 hn').2.2
    intro hc
    exact this p hc p (by simp) rfl
  have hli : l ∉ i ++ [p] := by rw [← he]; exact hl
  have hlp : l ≠ p := fun e => hli (by simp [e])
  have hlg : l ≠ gc := fun e => hl (by simp [e])
  refine Nx.split.2 ⟨h1.congr ?_ ?_, ?_⟩
  · intro x hx
    rw [List.dropLast_concat] at hx
    have n1 : x ≠ p := fun e => hpi (e ▸ hx)
    have n2 : x ≠ l := fun e => hli (by rw [← e]; simp [hx])
    rw [upd_ne _ _ n1, upd_ne _ _ n2]
  · intro x hx
    rw [← he, List.tail_cons] at hx
    have n1 : x ≠ gc := fun e => (List.nodup_cons.1 hn).1 (e ▸ hx)
    have n2 : x ≠ l := fun e => hl (by rw [← e]; simp [hx])
    rw [upd_ne _ _ n1, upd_ne _ _ n2]
  · refine ⟨upd_same _ _ _, ?_, ?_, upd_same _ _ _, trivial⟩
    · rw [upd_ne _ _ hlg, upd_same]
    · rw [upd_ne _ _ hlp, upd_same]
theorem Cyc.take {gc g : Nat} {a b : List Nat} (h : Cyc nx pv gc (a ++ g :: b)) (hn : (gc :: (a ++ g :: b)).Nodup) :
    Cyc (upd nx (pv g) (nx g)) (upd pv (nx g) (pv g)) gc (a ++ b) ∧ (pv g = gc ∨ pv g ∈ a) ∧ nx g = hd1 gc b := by
  obtain ⟨i, p, hi⟩ := snoc_of gc a
  obtain ⟨n, j, hj⟩ : ∃ n j, b ++ [gc] = n :: j := by cases b <;> simp
  have e1 : gc :: (a ++ g :: b ++ [gc]) = i ++ p :: g :: n :: j := by
    have : gc :: (a ++ g :: b ++ [gc]) = (gc :: a) ++ g :: (b ++ [gc]) := by simp
    rw [this, hi, hj]; simp
  have e2 : gc :: (a ++ b ++ [gc]) = i ++ p :: n :: j := by
    have : gc :: (a ++ b ++ [gc]) = (gc :: a) ++ (b ++ [gc]) := by simp
    rw [this, hi, hj]; simp
  unfold Cyc at h ⊢
  rw [e1] at h
  rw [e2]
  obtain ⟨h1, h2⟩ := Nx.split.1 h
  obtain ⟨k1, k2, k3, k4, k5⟩ := h2
  have hnb : n = hd1 gc b := by cases b <;> simp at hj <;> simp [hj, hd1]
  have hpm : p = gc ∨ p ∈ a := by
    have : p ∈ gc :: a := by rw [hi]; simp
    simpa using this
  have hnm : n = gc ∨ n ∈ b := by
    have : n ∈ b ++ [gc] := by rw [hj]; simp
    simp at this
    exact this.symm
  rw [k2, k3]
  simp only [List.nodup_cons, List.mem_append, List.mem_cons, not_or, List.nodup_append] at hn
  obtain ⟨⟨ga, gg, gb⟩, na, ⟨ngb, nb⟩, nd⟩ := hn
  refine ⟨Nx.split.2 ⟨h1.congr ?_ ?_, upd_same _ _ _, upd_same _ _ _, k5.congr ?_ ?_⟩, hpm, hnb⟩
  · intro x hx
    rw [List.dropLast_concat] at hx
    refine upd_ne _ _ ?_
    rintro rfl
    have hh : (i ++ [x]).Nodup := by rw [← hi]; exact List.nodup_cons.2 ⟨ga, na⟩
    exact (List.nodup_append.1 hh).2.2 x hx x (by simp) rfl
  · intro x hx
    rw [← hi, List.tail_cons] at hx
    refine upd_ne _ _ ?_
    rintro rfl
    rcases hnm with e | e
    · exact ga (e ▸ hx)
    · exact nd x hx x (.inr e) rfl
  · intro x hx
    rw [← hj, List.dropLast_concat] at hx
    refine upd_ne _ _ ?_
    rintro rfl
    rcases hpm with e | e
    · exact gb (e ▸ hx)
    · exact nd x e x (.inr hx) rfl
  · intro x hx
    simp only [List.tail_cons] at hx
    refine upd_ne _ _ ?_
    rintro rfl
    cases b with
    | nil => simp at hj; rw [hj.2] at hx; simp at hx
    | cons b0 b' =>
      simp only [List.cons_append, List.cons.injEq] at hj
      obtain ⟨rfl, rfl⟩ := hj
      simp only [List.mem_append, List.mem_singleton] at hx
      rcases hx with hx | rfl
      · exact (List.nodup_cons.1 nb).1 hx
      · simp at gb
end plain
/-- the address of a link, of the ring's root -/
abbrev pg (g : Nat) : Value := .pointer (some ⟨g, 0, none⟩)
/-- a link: its block, its key, its size -/
abbrev Lnk := Nat × Thg
def bksL (L : List Lnk) : List Nat := L.map fun t => t.1
def thsL (L : List Lnk) : List Thg := L.map fun t => t.2
def mapL (L : List Lnk) : List (List UInt8 × Value) := L.map fun t => (t.2.1, pg t.1)
/-- the blocks of the ring, whatever they hold for one another -/
structure Lks (TC TL : TypeId) (w : World) (gc gm : Nat) (nx pv : Nat → Nat) (L : List Lnk) : Prop where
  root : BoxAt w gc TC [S [], .int .i64 0, pg (pv gc), pg (nx gc), .map (some gm)]
  link : ∀ t ∈ L, BoxAt w t.1 TL [S t.2.1, .int .i64 (t.2.2 : Int), pg (pv t.1), pg (nx t.1)]
  nd : (gc :: bksL L).Nodup
section
variable {TC TL : TypeId} {w w' : World} {gc gm : Nat} {nx pv : Nat → Nat} {L : List Lnk}
theorem mem_bks {x : Nat} (h : x ∈ bksL L) : ∃ t ∈ L, t.1 = x := by simpa [bksL] using h
theorem Lks.pvAt (h : Lks TC TL w gc gm nx pv L) {x : Nat} (hx : x ∈ gc :: bksL L) : w.cell? ⟨x, 2, none⟩ = some (pg (pv x)) := by
  rcases List.mem_cons.1 hx with rfl | hx
  · exact h.root.cell rfl
  · obtain ⟨t, ht, rfl⟩ := mem_bks hx
    exact (h.link t ht).cell rfl
theorem Lks.nxAt (h : Lks TC TL w gc gm nx pv L) {x : Nat} (hx : x ∈ gc :: bksL L) : w.cell? ⟨x, 3, none⟩ = some (pg (nx x)) := by
  rcases List.mem_cons.1 hx with rfl | hx
  · exact h.root.cell rfl
  · obtain ⟨t, ht, rfl⟩ := mem_bks hx
    exact (h.link t ht).cell rfl
theorem Lks.freeAt (h : Lks TC TL w gc gm nx pv L) {x : Nat} (hx : x ∈ gc :: bksL L) (j : Nat) : w.frozen? ⟨x, j, none⟩ = false := by
  rcases List.mem_cons.1 hx with rfl | hx
  · exact h.root.free j
  · obtain ⟨t, ht, rfl⟩ := mem_bks hx
    exact (h.link t ht).free j
theorem Lks.setN (h : Lks TC TL w gc gm nx pv L) {x : Nat} (hx : x ∈ gc :: bksL L) (y : Nat) : Lks TC TL (w.setCell ⟨x, 3, none⟩ (pg y)) gc gm (upd nx x y) pv L := by
  refine ⟨?_, ?_, h.nd⟩
  · by_cases e : gc = x
    · subst e; rw [upd_same]; simpa using h.root.set 3 (pg y)
    · rw [upd_ne _ _ e]; exact h.root.setOther _ e _
  · intro t ht
    by_cases e : t.1 = x
    · subst e; rw [upd_same]; simpa using (h.link t ht).set 3 (pg y)
    · rw [upd_ne _ _ e]; exact (h.link t ht).setOther _ e _
theorem Lks.setP (h : Lks TC TL w gc gm nx pv L) {x : Nat} (hx : x ∈ gc :: bksL L) (y : Nat) : Lks TC TL (w.setCell ⟨x, 2, none⟩ (pg y)) gc gm nx (upd pv x y) L := by
  refine ⟨?_, ?_, h.nd⟩
  · by_cases e : gc = x
    · subst e; rw [upd_same]; simpa using h.root.set 2 (pg y)
    · rw [upd_ne _ _ e]; exact h.root.setOther _ e _
  · intro t ht
    by_cases e : t.1 = x
    · subst e; rw [upd_same]; simpa using (h.link t ht).set 2 (pg y)
    · rw [upd_ne _ _ e]; exact (h.link t ht).setOther _ e _
theorem Lks.lt (h : Lks TC TL w gc gm nx pv L) {x : Nat} (hx : x ∈ gc :: bksL L) : x < w.heap.size := by
  rcases List.mem_cons.1 hx with rfl | hx
  · exact h.root.lt
  · obtain ⟨t, ht, rfl⟩ := mem_bks hx
    exact (h.link t ht).lt
theorem Lks.but {B : Nat → Prop} (h : Lks TC TL w gc gm nx pv L) (hb : SameBut B w w') (hB : ∀ x ∈ gc :: bksL L, ¬ B x) : Lks TC TL w' gc gm nx pv L :=
  ⟨hb.box h.root (hB _ (by simp)), fun t ht => hb.box (h.link t ht) (hB _ (List.mem_cons_of_mem _ (List.mem_map.2 ⟨t, ht, rfl⟩))), h.nd⟩
theorem Lks.keep (h : Lks TC TL w gc gm nx pv L) (hb : Below w.heap.size w w') : Lks TC TL w' gc gm nx pv L :=
  ⟨h.root.keep hb, fun t ht => (h.link t ht).keep hb, h.nd⟩
theorem Lks.alloc (h : Lks TC TL w gc gm nx pv L) (o : Obj) : Lks TC TL (w.alloc o) gc gm nx pv L :=
  ⟨h.root.alloc o, fun t ht => (h.link t ht).alloc o, h.nd⟩
theorem Lks.drew (h : Lks TC TL w gc gm nx pv L) : Lks TC TL w.drew gc gm nx pv L := ⟨h.root.drew, fun t ht => (h.link t ht).drew, h.nd⟩
theorem Lks.nxv (h : Lks TC TL w gc gm nx pv L) {nx2 pv2 : Nat → Nat} (h1 : ∀ x ∈ gc :: bksL L, nx2 x = nx x) (h2 : ∀ x ∈ gc :: bksL L, pv2 x = pv x) : Lks TC TL w gc gm nx2 pv2 L := by
  refine ⟨?_, ?_, h.nd⟩
  · rw [h1 _ (by simp), h2 _ (by simp)]; exact h.root
  · intro t ht
    have hm : t.1 ∈ gc :: bksL L := List.mem_cons_of_mem _ (List.mem_map.2 ⟨t, ht, rfl⟩)
    rw [h1 _ hm, h2 _ hm]; exact h.link t ht
/-- one more block -/
theorem Lks.more (h : Lks TC TL w gc gm nx pv L) {g p n : Nat} (k : List UInt8) (s : Nat) (hg : g ∉ gc :: bksL L) (hb : BoxAt w g TL [S k, .int .i64 (s : Int), pg p, pg n]) :
    Lks TC TL w gc gm (upd nx g n) (upd pv g p) (L ++ [(g, k, s)]) := by
  have hne : ∀ x ∈ gc :: bksL L, x ≠ g := fun x hx e => hg (e ▸ hx)
  have h' := h.nxv (nx2 := upd nx g n) (pv2 := upd pv g p) (fun x hx => upd_ne _ _ (hne x hx)) (fun x hx => upd_ne _ _ (hne x hx))
  refine ⟨h'.root, ?_, ?_⟩
  · intro t ht
    rcases List.mem_append.1 ht with ht | ht
    · exact h'.link t ht
    · simp only [List.mem_singleton] at ht
      subst ht
      simp only [upd_same]
      exact hb
  · have : gc :: bksL (L ++ [(g, k, s)]) = (gc :: bksL L) ++ [g] := by simp [bksL]
    rw [this]
    refine List.nodup_append.2 ⟨h.nd, by simp, ?_⟩
    intro a ha b hb
    simp only [List.mem_singleton] at hb
    subst hb
    exact hne a ha
theorem Lks.less {a b : List Lnk} {t : Lnk} (h : Lks TC TL w gc gm nx pv (a ++ t :: b)) : Lks TC TL w gc gm nx pv (a ++ b) := by
  refine ⟨h.root, fun x hx => h.link x ?_, h.nd.sublist ?_⟩
  · rcases List.mem_append.1 hx with hx | hx
    · exact List.mem_append_left _ hx
    · exact List.mem_append_right _ (List.mem_cons_of_mem _ hx)
  · simp only [bksL, List.map_append, List.map_cons]
    exact (List.Sublist.append_left (List.sublist_cons_self _ _) _).cons_cons _
end
theorem thsL_app (a b : List Lnk) : thsL (a ++ b) = thsL a ++ thsL b := by simp [thsL]
theorem bksL_app (a b : List Lnk) : bksL (a ++ b) = bksL a ++ bksL b := by simp [bksL]
theorem mapL_app (a b : List Lnk) : mapL (a ++ b) = mapL a ++ mapL b := by simp [mapL]
/-- a key among the links, or not -/
theorem find_ring (L : List Lnk) (k : List UInt8) :
    (∃ a g s b, L = a ++ (g, k, s) :: b ∧ takeR k (thsL L) = some ((k, s), thsL (a ++ b)) ∧ getM (mapL L) k = some (pg g) ∧ delM (mapL L) k = mapL (a ++ b)) ∨
    (takeR k (thsL L) = none ∧ getM (mapL L) k = none) := by
  induction L with
  | nil => exact .inr ⟨rfl, rfl⟩
  | cons t r ih =>
    obtain ⟨g, k', s⟩ := t
    by_cases h : k' = k
    · subst h
      refine .inl ⟨[], g, s, r, rfl, ?_, ?_, ?_⟩
      · simp [thsL, takeR]
      · simp [mapL, getM]
      · simp [mapL, delM]
    · have h2 : ¬ k = k' := fun e => h e.symm
      rcases ih with ⟨a, g0, s0, b, h1, h3, h4, h5⟩ | ⟨h3, h4⟩
      · refine .inl ⟨(g, k', s) :: a, g0, s0, b, by rw [h1]; rfl, ?_, ?_, ?_⟩
        · have : thsL ((g, k', s) :: r) = (k', s) :: thsL r := rfl
          rw [this, takeR, if_neg h, h3]; rfl
        · have : mapL ((g, k', s) :: r) = (k', pg g) :: mapL r := rfl
          rw [this, getM, if_neg h2, h4]
        · have : mapL ((g, k', s) :: r) = (k', pg g) :: mapL r := rfl
          rw [this, delM, if_neg h2, h5]; rfl
      · refine .inr ⟨?_, ?_⟩
        · have : thsL ((g, k', s) :: r) = (k', s) :: thsL r := rfl
          rw [this, takeR, if_neg h, h3]; rfl
        · have : mapL ((g, k', s) :: r) = (k', pg g) :: mapL r := rfl
          rw [this, getM, if_neg h2, h4]
/-- the least number of which p speaks -/
noncomputable def leastN (p : Nat → Prop) : Nat := Classical.epsilon fun n => p n ∧ ∀ m, p m → n ≤ m
theorem leastN_spec {p : Nat → Prop} {n : Nat} (h : p n) : p (leastN p) ∧ ∀ m, p m → leastN p ≤ m := by
  have hex : ∃ n, p n ∧ ∀ m, p m → n ≤ m := by
    induction n using Nat.strongRecOn with
    | ind n ih =>
      by_cases hc : ∃ m, m < n ∧ p m
      · obtain ⟨m, hm, hp⟩ := hc
        exact ih m hm hp
      · refine ⟨n, h, fun m hm => ?_⟩
        rcases Nat.lt_or_ge m n with h1 | h1
        · exact absurd ⟨m, h1, hm⟩ hc
        · exact h1
  exact Classical.epsilon_spec hex
end Go.Larder
