/- What a call leaves as it was, but for a few blocks. No program in sight. -/
import Derived.Test.YtbchkaoocobpfaaDoorBoxAt
import Derived.Test.YtbchkaoocobpfaaDoorAppI
import Derived.Test.YtbchkaoocobpfaaDoorApp
import Derived.OwnWalkIn
namespace Go.Larder
open Go.RowKit
set_option linter.unusedVariables false
set_option linter.unusedSimpArgs false
structure SameBut (B : Nat → Prop) (w w' : World) : Prop where
  os : w'.os = w.os
  tape : w'.tape = w.tape
  output : w'.output = w.output
  size : w.heap.size ≤ w'.heap.size
  block : ∀ j, j < w.heap.size → ¬ B j → w'.heap[j]? = w.heap[j]?
variable {B B' : Nat → Prop} {w w' w'' : World}
theorem SameBut.refl (w : World) : SameBut B w w := ⟨rfl, rfl, rfl, Nat.le_refl _, fun _ _ _ => rfl⟩
theorem SameBut.mono (h : SameBut B w w') (hB : ∀ j, j < w.heap.size → B j → B' j) : SameBut B' w w' := ⟨h.os, h.tape, h.output, h.size, fun j hj hn => h.block j hj fun hb => hn (hB j hj hb)⟩
theorem SameBut.trans (h : SameBut B w w') (h2 : SameBut B' w' w'') (hB : ∀ j, j < w.heap.size → B' j → B j) : SameBut B w w'' :=
  ⟨h2.os.trans h.os, h2.tape.trans h.tape, h2.output.trans h.output, Nat.le_trans h.size h2.size, fun j hj hn => (h2.block j (Nat.lt_of_lt_of_le hj h.size) fun hb => hn (hB j hj hb)).trans (h.block j hj hn)⟩
theorem SameBut.setCell (h : SameBut B w w') (p : Addr) (v : Value) (hp : p.block < w.heap.size → B p.block) : SameBut B w (w'.setCell p v) :=
  ⟨h.os, h.tape, h.output, by simpa using h.size, fun j hj hn => (heap_setCell_other _ _ _ _ (by rintro rfl; exact hn (hp hj))).trans (h.block j hj hn)⟩
theorem SameBut.alloc (h : SameBut B w w') (o : Obj) : SameBut B w (w'.alloc o) :=
  ⟨h.os, h.tape, h.output, Nat.le_trans h.size (by simp), fun j hj hn => (Below.heap_alloc _ _ _ (Nat.lt_of_lt_of_le hj h.size)).trans (h.block j hj hn)⟩
theorem SameBut.drew (h : SameBut B w w') : SameBut B w w'.drew := ⟨h.os, h.tape, h.output, h.size, h.block⟩
theorem SameBut.drew' (h : SameBut B w.drew w') : SameBut B w w' := ⟨h.os, h.tape, h.output, h.size, h.block⟩
theorem SameBut.put (h : SameBut B w w') (r : Nat) (o : Obj) (hr : r < w.heap.size → B r) : SameBut B w (w'.putObj r o) :=
  ⟨h.os, h.tape, h.output, by simpa using h.size, fun j hj hn => (World.putObj_heap_other (by rintro rfl; exact hn (hr hj))).trans (h.block j hj hn)⟩
theorem SameBut.below {B0 : Nat} (h : SameBut B w w') (h2 : Below B0 w' w'') (hB : ∀ j, j < w.heap.size → B0 ≤ j → B j) : SameBut B w w'' :=
  ⟨h2.os.trans h.os, h2.tape.trans h.tape, h2.output.trans h.output, Nat.le_trans h.size h2.size, fun j hj hn => (h2.block j (Nat.lt_of_not_le fun hb => hn (hB j hj hb))).trans (h.block j hj hn)⟩
theorem SameBut.keep (h : SameBut B w w') (h2 : Below w'.heap.size w' w'') : SameBut B w w'' := h.below h2 fun j hj hb => absurd hb (by have := h.size; omega)
theorem SameBut.grown {row : Option Nat} (h : SameBut B w w') (h2 : w'.grownBy w'' row) (hB : ∀ j, j < w.heap.size → row = some j → B j) : SameBut B w w'' :=
  ⟨h2.os.trans h.os, h2.tape.trans h.tape, h2.output.trans h.output, Nat.le_trans h.size h2.size, fun j hj hn => (h2.block j (Nat.lt_of_lt_of_le hj h.size) fun hb => hn (hB j hj hb.symm)).trans (h.block j hj hn)⟩
theorem SameBut.toBelow {N : Nat} (h : SameBut B w w') (hN : N ≤ w.heap.size) (hB : ∀ j, j < N → ¬ B j) : Below N w w' := ⟨h.os, h.tape, h.output, h.size, fun j hj => h.block j (by omega) (hB j hj)⟩
theorem Below.same {N : Nat} (h : Below N w w') : SameBut (fun j => N ≤ j) w w' := ⟨h.os, h.tape, h.output, h.size, fun j hj hn => h.block j (by omega)⟩
theorem SameBut.box {g : Nat} {t : TypeId} {cs : List Value} (h : SameBut B w w') (hb : BoxAt w g t cs) (hg : ¬ B g) : BoxAt w' g t cs := (h.block g hb.lt hg).trans hb
theorem SameBut.own {α : Type} {E : ElemT α} {base c : Nat} {e : TypeId} {A : Option Addr} {l : List α} (h : SameBut B w w') (ho : OwnL E w base e A c l) (hn : ∀ a, A = some a → ¬ B a.block) : OwnL E w' base e A c l :=
  ho.keep fun a ha => h.block a.block (ho.lt a ha).2 (hn a ha)
/-- the block of a row -/
def blkOf (A : Option Addr) : Option Nat := A.map (·.block)
theorem OwnL.type_ {α : Type} {E : ElemT α} {base c : Nat} {e : TypeId} {A : Option Addr} {l : List α} (h : OwnL E w base e A c l) {a : Addr} (ha : A = some a) : ∃ cur, w.heap[a.block]? = some (.cells cur e (0, 0)) := by
  subst ha
  rcases h.2 with ⟨h0, _⟩ | ⟨g, cap, cur, h1, _, h2, _⟩
  · injection h0 with h0; cases h0
  · injection h1 with h1 _ _
    injection h1 with h1
    subst h1
    exact ⟨cur, h2⟩
/-- rows of two kinds of elements lie apart -/
theorem OwnL.apart {α β : Type} {E : ElemT α} {E' : ElemT β} {base c base' c' : Nat} {e e' : TypeId} {A A' : Option Addr} {l : List α} {l' : List β} (h : OwnL E w base e A c l) (h' : OwnL E' w base' e' A' c' l') (hne : e ≠ e') : ∀ a a', A = some a → A' = some a' → a.block ≠ a'.block := by
  intro a a' ha ha' hb
  obtain ⟨cur, h1⟩ := h.type_ ha
  obtain ⟨cur', h2⟩ := h'.type_ ha'
  rw [hb, h2] at h1
  injection h1 with h1
  injection h1 with _ h1 _
  exact hne h1.symm
theorem BoxAt.apart {α : Type} {E : ElemT α} {base c g : Nat} {e t : TypeId} {A : Option Addr} {l : List α} {cs : List Value} (h : OwnL E w base e A c l) (hb : BoxAt w g t cs) (hne : e ≠ t) : ∀ a, A = some a → a.block ≠ g := by
  rintro a ha rfl
  obtain ⟨cur, h1⟩ := h.type_ ha
  have h2 : w.heap[a.block]? = some (.cells cs.toArray t) := hb
  rw [h2] at h1
  injection h1 with h1
  injection h1 with _ h1 _
  exact hne h1.symm
theorem ownBlock_blk (A : Option Addr) (n c : Nat) : (Value.slice A n c).ownBlock = blkOf A := by cases A <;> rfl
theorem OwnL.alc {α : Type} {E : ElemT α} {base c : Nat} {e : TypeId} {A : Option Addr} {l : List α} (h : OwnL E w base e A c l) (o : Obj) : OwnL E (w.alloc o) base e A c l := h.keep fun a ha => Below.heap_alloc w _ _ (h.lt a ha).2
theorem OwnL.drw {α : Type} {E : ElemT α} {base c : Nat} {e : TypeId} {A : Option Addr} {l : List α} (h : OwnL E w base e A c l) : OwnL E w.drew base e A c l := h.keep fun a ha => rfl
theorem OwnL.grn {α : Type} {E : ElemT α} {base c : Nat} {e : TypeId} {A A' : Option Addr} {l : List α} (h : OwnL E w base e A c l) (hg : w.grownBy w' (blkOf A')) (hne : ∀ a a', A = some a → A' = some a' → a.block ≠ a'.block) : OwnL E w' base e A c l :=
  h.keep fun a ha => hg.block a.block (h.lt a ha).2 fun hb => by
    cases A' with
    | none => simp [blkOf] at hb
    | some a' => simp [blkOf] at hb; exact hne a a' ha rfl hb
theorem BoxAt.grn {g : Nat} {t : TypeId} {cs : List Value} {A : Option Addr} (h : BoxAt w g t cs) (hg : w.grownBy w' (blkOf A)) (hne : ∀ a, A = some a → a.block ≠ g) : BoxAt w' g t cs :=
  (hg.block g h.lt fun hb => by
    cases A with
    | none => simp [blkOf] at hb
    | some a' => simp [blkOf] at hb; exact hne a' rfl hb.symm).trans h
/-- append at a step of a region that draws: the row stays where it was or lies in a new block -/
theorem step_app_at {P : Program} {w : World} {ops : Array Oper} {o : Oper} {a : Act} {K : Act → World → Prop} {Q : Exit → Act → World → Prop} {Z : Prop} {t e : TypeId} {bytes : Nat} {α : Type} {base c : Nat} {A : Option Addr} {l : List α}
    (E : ElemT α) (T : SlT P t e E.size bytes) (news : List α) (hgd : o.guard = none) (s x : Operand)
    (ho : o.op = .call { callee := .builtin .append, args := #[s, x], argTypes := #[t, t] })
    (hs : a.eval s = .slice A l.length c) (hown : OwnL E w base e A c l) {B c' : Nat} {ad : Addr} (hx : a.eval x = .slice (some ad) news.length c') (hr : ReadL E w B (some ad) news)
    (hb : (l.length + news.length) * bytes ≤ 140737488355328) (h63 : l.length + news.length ≤ maxLen) (hbase : base ≤ w.heap.size)
    (k : ∀ A2 c2 w', OwnL E w' base e A2 c2 (l ++ news) → w.grownBy w' (blkOf A) → (blkOf A2 = blkOf A ∨ blkOf A2 = some w.heap.size) → Below base w w' → K (a.put o.dst (.slice A2 (l.length + news.length) c2)) w') :
    if Region.wanted o (yielded ops a.tmps) = true then Oper.wp P o a w K Q else Z := by
  have hw : Region.wanted o (yielded ops a.tmps) = true := by simp [Region.wanted, hgd]
  rw [if_pos hw]
  obtain ⟨i, z, hi, hz, hz1, hz2, hz3⟩ := T.info
  obtain ⟨v', w', hrun, h1, h2, _, h4⟩ := run_append_own_at (P := P) w base t o.type e i z E.size bytes T.ht hi hz hz1 hz2 hz3 E.pos (.slice A l.length c) l.length (l.flatMap E.enc) hown ad news.length c' (news.flatMap E.enc)
    (by rw [E.length_flatMap]) (by
      intro j u hj
      obtain ⟨k', r, y, rfl, hy, hu⟩ := flat_at E news j u hj
      obtain ⟨b', off', hA, _, hc⟩ := hr (by have := (List.getElem?_eq_some_iff.1 hy).1; omega)
      injection hA with hA
      subst hA
      have hadd : ∀ i, (⟨b', off', none⟩ : Addr).add i = ⟨b', off' + i, none⟩ := fun i => by unfold Addr.add; split <;> simp_all
      rw [hadd, ← Nat.add_assoc]
      exact hc k' y hy r u hu) (E.one_flatMap news) h63 hb hbase
  obtain ⟨A2, c2, rfl⟩ : ∃ A2 c2, v' = .slice A2 (l.length + news.length) c2 := by
    rcases h1.2 with ⟨hv, h0⟩ | ⟨g, cap, _, rfl, _⟩
    · exact ⟨none, 0, by rw [hv, h0]⟩
    · exact ⟨_, cap, rfl⟩
  rw [ownBlock_blk] at h2 h4
  rw [ownBlock_blk] at h4
  have hk := k A2 c2 w' (by unfold OwnL; rw [List.length_append, List.flatMap_append]; exact h1) h2 h4 ⟨h2.os, h2.tape, h2.output, h2.size, fun j hj => h2.block j (by omega) (by
    intro hne
    cases A with
    | none => simp [blkOf] at hne
    | some g' =>
      have := (OwnL.lt hown g' rfl).1
      simp [blkOf] at hne
      omega)⟩
  unfold Oper.wp execOp
  simp only [ho, resolve, invoke, builtin, Sem.run_bind, Sem.run_pure, Result.andThen_ok, List.map_toArray, List.map_cons, List.map_nil, hs, hx, hrun]
  exact hk
/-- .. whatever the lengths are written as, and where nothing is appended too -/
theorem step_app_atn {P : Program} {w : World} {ops : Array Oper} {o : Oper} {a : Act} {K : Act → World → Prop} {Q : Exit → Act → World → Prop} {Z : Prop} {t e : TypeId} {bytes : Nat} {α : Type} {base c n m : Nat} {A : Option Addr} {l : List α}
    (E : ElemT α) (T : SlT P t e E.size bytes) (news : List α) (hgd : o.guard = none) (s x : Operand)
    (ho : o.op = .call { callee := .builtin .append, args := #[s, x], argTypes := #[t, t] }) 
    (hs : a.eval s = .slice A n c) (hown : OwnL E w base e A c l) {B c' : Nat} {A' : Option Addr} (hx : a.eval x = .slice A' m c') (hr : ReadL E w B A' news) (hn : l.length = n) (hm : news.length = m)
    (hb : (l.length + news.length) * bytes ≤ 140737488355328) (h63 : l.length + news.length ≤ maxLen) (hbase : base ≤ w.heap.size)
    (k : ∀ A2 c2 w', OwnL E w' base e A2 c2 (l ++ news) → w.grownBy w' (blkOf A) → Below base w w' → K (a.put o.dst (.slice A2 (n + m) c2)) w') :
    if Region.wanted o (yielded ops a.tmps) = true then Oper.wp P o a w K Q else Z := by
  subst hn hm
  cases A' with
  | some ad => exact step_app_at E T news hgd s x ho hs hown hx hr hb h63 hbase fun A2 c2 w' h1 h2 _ h3 => k A2 c2 w' h1 h2 h3
  | none =>
    have h0 : news = [] := by
      cases news with
      | nil => rfl
      | cons f l => obtain ⟨_, _, h, _⟩ := hr (by simp); cases h
    subst h0
    have hw : Region.wanted o (yielded ops a.tmps) = true := by simp [Region.wanted, hgd]
    rw [if_pos hw]
    obtain ⟨i, z, hi, hz, hz1, hz2, hz3⟩ := T.info
    have hrun := run_append_none (P := P) w t o.type e i T.ht hi A l.length c c' hown.le_cap
    have hk := k A c w (by rw [List.append_nil]; exact hown) ⟨rfl, rfl, rfl, Nat.le_refl _, fun _ _ _ => rfl⟩ (Below.refl _ _)
    unfold Oper.wp execOp
    simp only [ho, resolve, invoke, builtin, Sem.run_bind, Sem.run_pure, Result.andThen_ok, List.map_toArray, List.map_cons, List.map_nil, hs, hx, List.length_nil, hrun]
    exact hk
/-- within a fence -/
theorem wpListIn_appG {F : Fence} {n : Nat} {P : Program} {w : World} {ops : Array Oper} {rest : List Oper} {o : Oper} {a : Act} {Q : Exit → Act → World → Prop} {t e : TypeId} {bytes : Nat} {α : Type} {base c : Nat} {A : Option Addr} {l : List α} (E : ElemT α) (T : SlT P t e E.size bytes) (news : List α) (hgd : o.guard = none) (s x : Operand)
    (ho : o.op = .call { callee := .builtin .append, args := #[s, x], argTypes := #[t, t] })
    (hs : a.eval s = .slice A l.length c) (hown : OwnL E w base e A c l) (cs : Array Value) (hcs : cs.toList = news.flatMap E.enc) (m : Nat) (hm : news.length = m + 1)
    (hx : a.eval x = .slice (some ⟨w.heap.size, 0, none⟩) (m + 1) (m + 1)) (hb : (l.length + (m + 1)) * bytes ≤ 140737488355328) (h63 : l.length + (m + 1) ≤ maxLen) (hbase : base ≤ w.heap.size)
    (k : ∀ g c' w', OwnL E w' base e (some ⟨g, 0, none⟩) c' (l ++ news) → w.grownBy w' (blkOf A) → Below base w w' → wpListIn F n P ops Q rest (a.put o.dst (.slice (some ⟨g, 0, none⟩) (l.length + (m + 1)) c')) w') :
    wpListIn F n P ops Q (o :: rest) a (w.alloc (.cells cs e)) := by
  obtain ⟨i, z, hi, hz, hz1, hz2, hz3⟩ := T.info
  have hlen : news.length = m + 1 := hm
  refine wpListIn_append_own _ hgd s x t ho base e i z E.size bytes T.ht hi hz hz1 hz2 hz3 E.pos (.slice A l.length c) l.length (l.flatMap E.enc) hs (World.ownsRow.alloc hown _) ⟨w.heap.size, 0, none⟩ (m + 1) (m + 1) (news.flatMap E.enc) hx
    (by rw [E.length_flatMap, hlen]) ?_ (E.one_flatMap news) h63 hb (by simp; omega) ?_
  · intro j u hj
    exact World.news_of_block (heap_alloc_new w (.cells cs e)) j u (by rw [hcs]; exact hj)
  · intro v' w' h1 h2 _
    obtain ⟨g, cap, rfl⟩ : ∃ g cap, v' = .slice (some ⟨g, 0, none⟩) (l.length + (m + 1)) cap := by
      rcases h1.2 with ⟨_, h0⟩ | ⟨g, cap, _, rfl, _⟩
      · omega
      · exact ⟨g, cap, rfl⟩
    have hl : (l ++ news).length = l.length + (m + 1) := by simp [hlen]
    have hg2 : w.grownBy w' (Value.slice A l.length c).ownBlock :=
      ⟨h2.os, h2.tape, h2.output, Nat.le_trans (by simp) h2.size, fun i hi hne => (h2.block i (by simp; omega) hne).trans (Below.heap_alloc w _ i hi)⟩
    refine k g cap w' ?_ (by rw [← ownBlock_blk A l.length c]; exact hg2) ⟨h2.os, h2.tape, h2.output, Nat.le_trans (by simp) h2.size, fun i hi => hg2.block i (by omega) ?_⟩
    · unfold OwnL
      rw [hl, List.flatMap_append]
      exact h1
    · intro hne
      cases A with
      | none => simp [Value.ownBlock] at hne
      | some g' =>
        have := (OwnL.lt hown g' rfl).1
        simp [Value.ownBlock] at hne
        omega
end Go.Larder
