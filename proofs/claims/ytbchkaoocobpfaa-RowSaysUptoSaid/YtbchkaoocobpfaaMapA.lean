/- A map whose keys are texts, known whole and in its order: made, read, written, counted. No program in sight. -/
import Derived.Test.YtbchkaoocobpfaaChg
import Derived.Maps.OwnSet
namespace Go.Larder
open Go.RowKit
set_option linter.unusedVariables false
set_option linter.unusedSimpArgs false
section plain
variable {β : Type}
/-- the place and the value of a key -/
def idxM : List (List UInt8 × β) → List UInt8 → Option (Nat × β)
  | [], _ => none
  | (a, v) :: r, k => if k = a then some (0, v) else (idxM r k).map fun p => (p.1 + 1, p.2)
def getM : List (List UInt8 × β) → List UInt8 → Option β
  | [], _ => none
  | (a, v) :: r, k => if k = a then some v else getM r k
def putM : List (List UInt8 × β) → List UInt8 → β → List (List UInt8 × β)
  | [], k, v => [(k, v)]
  | (a, u) :: r, k, v => if k = a then (a, v) :: r else (a, u) :: putM r k v
def delM : List (List UInt8 × β) → List UInt8 → List (List UInt8 × β)
  | [], _ => []
  | (a, u) :: r, k => if k = a then r else (a, u) :: delM r k
def keysM (m : List (List UInt8 × β)) : List (List UInt8) := m.map Prod.fst
theorem getM_idx : ∀ (m : List (List UInt8 × β)) (k : List UInt8), getM m k = (idxM m k).map Prod.snd
  | [], _ => rfl
  | (a, v) :: r, k => by
    by_cases h : k = a
    · simp [getM, idxM, h]
    · simp only [getM, idxM, if_neg h]; rw [getM_idx r k]; cases idxM r k <;> rfl
theorem getM_none : ∀ {m : List (List UInt8 × β)} {k : List UInt8}, getM m k = none ↔ k ∉ keysM m
  | [], k => by simp [getM, keysM]
  | (a, v) :: r, k => by
    have ih := getM_none (m := r) (k := k)
    unfold keysM at ih ⊢
    by_cases h : k = a
    · simp [getM, h]
    · simp [getM, h, ih]
theorem getM_some_mem {m : List (List UInt8 × β)} {k : List UInt8} {v : β} (h : getM m k = some v) : (k, v) ∈ m := by
  induction m with
  | nil => simp [getM] at h
  | cons p r ih =>
    obtain ⟨a, u⟩ := p
    by_cases hk : k = a
    · subst hk; simp [getM] at h; simp [h]
    · simp only [getM, if_neg hk] at h; exact List.mem_cons_of_mem _ (ih h)
theorem getM_of_mem {m : List (List UInt8 × β)} (hn : (keysM m).Nodup) {k : List UInt8} {v : β} (h : (k, v) ∈ m) : getM m k = some v := by
  induction m with
  | nil => cases h
  | cons p r ih =>
    obtain ⟨a, u⟩ := p
    unfold keysM at hn
    rw [List.map_cons, List.nodup_cons] at hn
    rcases List.mem_cons.1 h with h' | h'
    · injection h' with h1 h2; subst h1 h2; exact if_pos rfl
    · have : k ≠ a := by
        rintro rfl
        exact hn.1 (List.mem_map.2 ⟨(k, v), h', rfl⟩)
      simp only [getM, if_neg this]
      exact ih hn.2 h'
theorem getM_put (m : List (List UInt8 × β)) (k k' : List UInt8) (v : β) : getM (putM m k v) k' = if k' = k then some v else getM m k' := by
  induction m with
  | nil => simp [putM, getM]
  | cons p r ih =>
    obtain ⟨a, u⟩ := p
    by_cases h : k = a
    · subst h
      by_cases h2 : k' = k <;> simp [putM, getM, h2]
    · by_cases h2 : k' = a
      · subst h2
        have : ¬ k' = k := fun h3 => h h3.symm
        simp [putM, getM, h, this]
      · simp [putM, getM, h, h2, ih]
theorem keysM_put (m : List (List UInt8 × β)) (k : List UInt8) (v : β) : keysM (putM m k v) = if k ∈ keysM m then keysM m else keysM m ++ [k] := by
  induction m with
  | nil => simp [putM, keysM]
  | cons p r ih =>
    obtain ⟨a, u⟩ := p
    unfold keysM at ih ⊢
    by_cases h : k = a
    · subst h; simp [putM]
    · rw [putM, if_neg h, List.map_cons, List.map_cons, ih]
      simp only [List.mem_cons, h, false_or]
      by_cases h2 : k ∈ List.map Prod.fst r
      · rw [if_pos h2, if_pos h2]
      · rw [if_neg h2, if_neg h2]; rfl
theorem nodup_put {m : List (List UInt8 × β)} (hn : (keysM m).Nodup) (k : List UInt8) (v : β) : (keysM (putM m k v)).Nodup := by
  rw [keysM_put]
  split
  · exact hn
  · rename_i h
    refine List.nodup_append.2 ⟨hn, by simp, ?_⟩
    intro a ha b hb
    simp only [List.mem_singleton] at hb
    subst hb
    rintro rfl
    exact h ha
theorem len_put (m : List (List UInt8 × β)) (k : List UInt8) (v : β) : (putM m k v).length = if (getM m k).isSome then m.length else m.length + 1 := by
  have h1 : (putM m k v).length = (keysM (putM m k v)).length := by simp [keysM]
  have h2 := getM_none (m := m) (k := k)
  rw [h1, keysM_put]
  cases hg : getM m k with
  | none => rw [if_neg (h2.1 hg)]; simp [keysM]
  | some x =>
    have : k ∈ keysM m := by
      apply Classical.byContradiction
      intro hc
      rw [h2.2 hc] at hg
      cases hg
    rw [if_pos this]; simp [keysM]
theorem keysM_del (m : List (List UInt8 × β)) (k : List UInt8) : keysM (delM m k) = (keysM m).erase k := by
  induction m with
  | nil => rfl
  | cons p r ih =>
    obtain ⟨a, u⟩ := p
    unfold keysM at ih ⊢
    by_cases h : k = a
    · subst h; simp [delM]
    · have h' : ¬ (a == k) = true := by simpa using fun e => h e.symm
      simp only [delM, if_neg h, List.map_cons, ih]
      rw [List.erase_cons_tail h']
theorem nodup_del {m : List (List UInt8 × β)} (hn : (keysM m).Nodup) (k : List UInt8) : (keysM (delM m k)).Nodup := by
  rw [keysM_del]; exact hn.erase k
theorem getM_del {m : List (List UInt8 × β)} (hn : (keysM m).Nodup) (k k' : List UInt8) : getM (delM m k) k' = if k' = k then none else getM m k' := by
  induction m with
  | nil => simp [delM, getM]
  | cons p r ih =>
    obtain ⟨a, u⟩ := p
    unfold keysM at hn
    rw [List.map_cons, List.nodup_cons] at hn
    by_cases h : k = a
    · subst h
      by_cases h2 : k' = k
      · subst h2
        simp only [delM, if_true]
        exact getM_none.2 hn.1
      · simp [delM, getM, h2]
    · by_cases h2 : k' = a
      · subst h2
        have : ¬ k' = k := fun h3 => h h3.symm
        simp [delM, getM, h, this]
      · simp only [delM, if_neg h, getM, if_neg h2]; exact ih hn.2
theorem len_del (m : List (List UInt8 × β)) (k : List UInt8) : (delM m k).length = if (getM m k).isSome then m.length - 1 else m.length := by
  induction m with
  | nil => rfl
  | cons p r ih =>
    obtain ⟨a, u⟩ := p
    by_cases h : k = a
    · subst h; simp [delM, getM]
    · simp only [delM, if_neg h, getM, List.length_cons, ih]
      split
      · rename_i h2
        have : 0 < r.length := by
          cases r with
          | nil => simp [getM] at h2
          | cons x r => simp
        omega
      · rfl
end plain
def entV (p : List UInt8 × Value) : Value × Value := (S p.1, p.2)
/-- Block g is a map with these entries, in this order. -/
def MapAt (w : World) (g : Nat) (m : List (List UInt8 × Value)) : Prop :=
  ∃ es clock, w.heap[g]? = some (.map es clock) ∧ MapKept.Stamped es clock ∧ es.toList.map (fun e => (e.key, e.val)) = m.map entV
theorem S_inj {a b : List UInt8} (h : S a = S b) : a = b := by
  injection h with h
  have := congrArg (fun x : ByteArray => x.data.toList) h
  simpa using this
theorem S_beq (a b : List UInt8) : ((⟨a.toArray⟩ : ByteArray) == (⟨b.toArray⟩ : ByteArray)) = decide (a = b) := by
  rw [Bool.eq_iff_iff, MapKept.bytes_beq, decide_eq_true_eq]
  constructor
  · intro h; exact S_inj (by rw [S, S, h])
  · rintro rfl; rfl
theorem findNow_S (k : List UInt8) : ∀ (es : List MapEntry) (m : List (List UInt8 × Value)) (i : Nat), es.map (fun e => (e.key, e.val)) = m.map entV → Instr.findNow .string (S k) es i = some ((idxM m k).map fun p => (i + p.1, p.2))
  | [], [], i, _ => rfl
  | [], _ :: _, _, h => by simp at h
  | _ :: _, [], _, h => by simp at h
  | e :: es, (a, v) :: m, i, h => by
    simp only [List.map_cons, List.cons.injEq, entV, Prod.mk.injEq] at h
    obtain ⟨⟨hk, hv⟩, h⟩ := h
    have ih := findNow_S k es m (i + 1) (by simpa [entV] using h)
    unfold Instr.findNow
    rw [hk]
    simp only [Instr.sameNow, S_beq]
    by_cases hka : k = a
    · subst hka
      simp [idxM, hv]
    · simp only [hka, decide_false, ih, idxM, if_false]
      cases idxM m k with
      | none => rfl
      | some p => simp; omega
section
variable {P : Program} {w w' : World} {g : Nat} {m : List (List UInt8 × Value)} {t kt et : TypeId}
theorem MapAt.made (w : World) : MapAt (w.alloc (.map #[] 0)) w.heap.size [] := ⟨#[], 0, heap_alloc_new w _, MapKept.stamped_empty 0, rfl⟩
theorem MapAt.lt (h : MapAt w g m) : g < w.heap.size := by
  obtain ⟨es, c, h, _⟩ := h
  exact (Array.getElem?_eq_some_iff.1 h).1
theorem MapAt.same (h : MapAt w g m) (hk : w'.heap[g]? = w.heap[g]?) : MapAt w' g m := by
  obtain ⟨es, c, h1, h2⟩ := h
  exact ⟨es, c, hk.trans h1, h2⟩
theorem MapAt.keep (h : MapAt w g m) (hb : Below w.heap.size w w') : MapAt w' g m := h.same (hb.block g h.lt)
theorem MapAt.but {B : Nat → Prop} (h : MapAt w g m) (hb : SameBut B w w') (hg : ¬ B g) : MapAt w' g m := h.same (hb.block g h.lt hg)
theorem MapAt.alloc (h : MapAt w g m) (o : Obj) : MapAt (w.alloc o) g m := h.keep ((Below.refl _ _).alloc (Nat.le_refl _) o)
theorem MapAt.drew (h : MapAt w g m) : MapAt w.drew g m := h
theorem MapAt.setCell (h : MapAt w g m) (a : Addr) (ha : g ≠ a.block) (v : Value) : MapAt (w.setCell a v) g m := h.same (heap_setCell_other _ _ _ _ ha)
theorem MapAt.nodup (h : MapAt w g m) : (keysM m).Nodup := by
  obtain ⟨es, c, _, hs, he⟩ := h
  have h1 : es.toList.map (·.key) = (keysM m).map S := by
    have := congrArg (List.map Prod.fst) he
    simpa [entV, keysM, Function.comp_def] using this
  have h2 := hs.2.2
  rw [h1] at h2
  exact (List.pairwise_map.1 h2).imp fun {a b} hab he => hab (by rw [he])
theorem MapAt.box_ne {T : TypeId} {b : Nat} {cs : List Value} (h : MapAt w g m) (hb : BoxAt w b T cs) : g ≠ b := by
  rintro rfl
  obtain ⟨es, c, h1, _⟩ := h
  unfold BoxAt at hb
  rw [h1] at hb
  injection hb with hb
  cases hb
theorem run_lookup_S (ht : P.underlying t = some (.map kt et)) (hk : P.underlying kt = some .string) (h : MapAt w g m) (k : List UInt8) (ok : Bool) {i : Nat} {v : Value} (hv : getM m k = some v) :
    (Instr.lookup t (.map (some g)) (S k) ok).run P w = .ok (if ok then .tuple #[v, .bool true] else v) w := by
  obtain ⟨es, c, hb, _, he⟩ := h
  have hf := MapKept.run_findKey (w := w) hk (findNow_S k es.toList m 0 he)
  rw [getM_idx] at hv
  cases hi : idxM m k with
  | none => rw [hi] at hv; cases hv
  | some p =>
    rw [hi] at hv hf
    simp only [Option.map_some, Option.some.injEq] at hv hf
    subst hv
    simp [Instr.lookup, run_underlying ht, MapKept.run_getObj_map hb, MapKept.run_checkKey (w := w) hk (k := S k) trivial, hf, Result.andThen]
theorem run_lookup_none (ht : P.underlying t = some (.map kt et)) (hk : P.underlying kt = some .string) (h : MapAt w g m) (k : List UInt8) (ok : Bool) {z : Value} (hz : (zeroValue et).run P w = .ok z w) (hv : getM m k = none) :
    (Instr.lookup t (.map (some g)) (S k) ok).run P w = .ok (if ok then .tuple #[z, .bool false] else z) w := by
  obtain ⟨es, c, hb, _, he⟩ := h
  have hf := MapKept.run_findKey (w := w) hk (findNow_S k es.toList m 0 he)
  rw [getM_idx] at hv
  cases hi : idxM m k with
  | some p => rw [hi] at hv; cases hv
  | none =>
    rw [hi] at hf
    simp only [Option.map_none] at hf
    simp [Instr.lookup, run_underlying ht, MapKept.run_getObj_map hb, MapKept.run_checkKey (w := w) hk (k := S k) trivial, hf, hz, Result.andThen]
theorem run_len_map (ht : P.underlying t = some (.map kt et)) (h : MapAt w g m) (ty : TypeId) : (Builtin.len_ #[t] ty #[.map (some g)]).run P w = .ok (.int .i64 (m.length : Int)) w := by
  obtain ⟨es, c, hb, _, he⟩ := h
  have := congrArg List.length he
  simp only [List.length_map, Array.length_toList] at this
  simp [Builtin.len_, run_underlying ht, MapKept.run_getObj_map hb, goInt, Result.andThen, this]
theorem sameBut_put {es es' : Array MapEntry} {c c' : Nat} (hb : w.heap[g]? = some (.map es c)) : SameBut (fun j => j = g) w { w with heap := w.heap.setIfInBounds g (.map es' c') } :=
  ⟨rfl, rfl, rfl, by simp, fun j _ hj => (MapKept.heap_set hb).2 j hj⟩
theorem idxM_at : ∀ {m : List (List UInt8 × Value)} {k : List UInt8} {i : Nat} {v : Value}, idxM m k = some (i, v) → m[i]? = some (k, v)
  | [], _, _, _, h => by simp [idxM] at h
  | (a, u) :: m, k, i, v, h => by
    by_cases hk : k = a
    · subst hk
      simp only [idxM, if_true, Option.some.injEq, Prod.mk.injEq] at h
      obtain ⟨rfl, rfl⟩ := h
      rfl
    · simp only [idxM, if_neg hk, Option.map_eq_some_iff] at h
      obtain ⟨p, hp, h⟩ := h
      injection h with h1 h2
      subst h1 h2
      simp only [List.getElem?_cons_succ]
      exact idxM_at hp
theorem putM_mod : ∀ {m : List (List UInt8 × Value)} {k : List UInt8} {i : Nat} {u v : Value}, idxM m k = some (i, u) → putM m k v = m.modify i (fun p => (p.1, v))
  | [], _, _, _, _, h => by simp [idxM] at h
  | (a, x) :: m, k, i, u, v, h => by
    by_cases hk : k = a
    · subst hk
      simp only [idxM, if_true, Option.some.injEq, Prod.mk.injEq] at h
      obtain ⟨rfl, rfl⟩ := h
      simp [putM]
    · simp only [idxM, if_neg hk, Option.map_eq_some_iff] at h
      obtain ⟨p, hp, h⟩ := h
      injection h with h1 h2
      subst h1 h2
      simp only [putM, if_neg hk, List.modify_succ_cons]
      rw [putM_mod (v := v) hp]
theorem putM_new : ∀ {m : List (List UInt8 × Value)} {k : List UInt8} {v : Value}, idxM m k = none → putM m k v = m ++ [(k, v)]
  | [], _, _, _ => rfl
  | (a, x) :: m, k, v, h => by
    by_cases hk : k = a
    · simp [idxM, hk] at h
    · simp only [idxM, if_neg hk, Option.map_eq_none_iff] at h
      simp only [putM, if_neg hk, putM_new h, List.cons_append]
theorem delM_idx : ∀ {m : List (List UInt8 × Value)} {k : List UInt8} {i : Nat} {u : Value}, idxM m k = some (i, u) → delM m k = m.eraseIdx i
  | [], _, _, _, h => by simp [idxM] at h
  | (a, x) :: m, k, i, u, h => by
    by_cases hk : k = a
    · subst hk
      simp only [idxM, if_true, Option.some.injEq, Prod.mk.injEq] at h
      obtain ⟨rfl, rfl⟩ := h
      simp [delM]
    · simp only [idxM, if_neg hk, Option.map_eq_some_iff] at h
      obtain ⟨p, hp, h⟩ := h
      injection h with h1 h2
      subst h1 h2
      simp only [delM, if_neg hk, List.eraseIdx_cons_succ]
      rw [delM_idx hp]
theorem delM_none : ∀ {m : List (List UInt8 × Value)} {k : List UInt8}, idxM m k = none → delM m k = m
  | [], _, _ => rfl
  | (a, x) :: m, k, h => by
    by_cases hk : k = a
    · simp [idxM, hk] at h
    · simp only [idxM, if_neg hk, Option.map_eq_none_iff] at h
      simp only [delM, if_neg hk, delM_none h]
theorem MapAt.put (ht : P.underlying t = some (.map kt et)) (hk : P.underlying kt = some .string) (h : MapAt w g m) (k : List UInt8) (v : Value) :
    ∃ w', (Instr.mapUpdate t (.map (some g)) (S k) v).run P w = .ok () w' ∧ MapAt w' g (putM m k v) ∧ SameBut (fun j => j = g) w w' := by
  have hnd := h.nodup
  obtain ⟨es, c, hb, hs, he⟩ := h
  have hf := MapKept.run_findKey (w := w) hk (findNow_S k es.toList m 0 he)
  cases hi : idxM m k with
  | none =>
    rw [hi] at hf
    simp only [Option.map_none] at hf
    refine ⟨_, ?_, ⟨es.push { key := S k, val := v, born := c }, c + 1, (MapKept.heap_set hb).1, MapKept.stamped_push hs ?_, ?_⟩, sameBut_put hb⟩
    · simp [Instr.mapUpdate, run_underlying ht, MapKept.run_getObj_map hb, MapKept.run_checkKey (w := w) hk (k := S k) trivial, hf, Result.andThen, MapKept.run_setObj_map _ hb]
    · intro x hx hxk
      have h1 : (x.key, x.val) ∈ m.map entV := by rw [← he]; exact List.mem_map.2 ⟨x, hx, rfl⟩
      obtain ⟨p, hp, h2⟩ := List.mem_map.1 h1
      simp only [entV, Prod.mk.injEq] at h2
      rw [hxk] at h2
      have h3 := S_inj h2.1
      have h4 : getM m k = none := by rw [getM_idx, hi]; rfl
      exact getM_none.1 h4 (List.mem_map.2 ⟨p, hp, h3⟩)
    · rw [putM_new hi]
      simp [he, entV]
  | some p =>
    obtain ⟨i, u⟩ := p
    rw [hi] at hf
    simp only [Option.map_some, Nat.zero_add] at hf
    have hat := idxM_at hi
    have hmi : (es.toList.map (fun e => (e.key, e.val)))[i]? = some (S k, u) := by rw [he, List.getElem?_map, hat]; rfl
    rw [List.getElem?_map, Option.map_eq_some_iff] at hmi
    obtain ⟨e0, he0, he1⟩ := hmi
    simp only [Prod.mk.injEq] at he1
    rw [Array.getElem?_toList] at he0
    refine ⟨_, ?_, ⟨es.modify i fun e => { e with key := S k, val := v }, c, (MapKept.heap_set hb).1, MapKept.stamped_modify hs i _ (fun _ _ => rfl) ?_, ?_⟩, sameBut_put hb⟩
    · have hst := MapKept.run_keyThatStays (P := P) (w := w) (d := .string) (k := S k) trivial
      have hgd : ((es[i]?).map (·.key)).getD (S k) = S k := by rw [he0, Option.map_some, Option.getD_some]; exact he1.1
      simp [Instr.mapUpdate, run_underlying ht, MapKept.run_getObj_map hb, MapKept.run_checkKey (w := w) hk (k := S k) trivial, hf, Result.andThen, MapKept.run_setObj_map _ hb, hgd, hst]
    · intro e _ h1
      rw [he0] at h1
      injection h1 with h1
      rw [← h1]
      exact he1.1.symm
    · rw [putM_mod hi]
      apply List.ext_getElem?
      intro j
      have hj := congrArg (fun l => l[j]?) he
      simp only [List.getElem?_map] at hj
      simp only [List.getElem?_map, Array.getElem?_toList, Array.getElem?_modify, List.getElem?_modify]
      rw [Array.getElem?_toList] at hj
      by_cases hij : i = j
      · subst hij
        rw [he0, hat]
        simp [entV]
      · simp only [if_neg hij]
        simpa using hj
theorem MapAt.del (ht : P.underlying t = some (.map kt et)) (hk : P.underlying kt = some .string) (h : MapAt w g m) (k : List UInt8) (ty : TypeId) :
    ∃ w', (Builtin.delete_ #[t, kt] ty #[.map (some g), S k]).run P w = .ok (.tuple #[]) w' ∧ MapAt w' g (delM m k) ∧ SameBut (fun j => j = g) w w' := by
  obtain ⟨es, c, hb, hs, he⟩ := h
  have hf := MapKept.run_findKey (w := w) hk (findNow_S k es.toList m 0 he)
  cases hi : idxM m k with
  | none =>
    rw [hi] at hf
    simp only [Option.map_none] at hf
    refine ⟨_, ?_, ⟨es, c, (MapKept.heap_set hb).1, hs, by rw [delM_none hi]; exact he⟩, sameBut_put hb⟩
    simp [Builtin.delete_, run_underlying ht, MapKept.run_getObj_map hb, MapKept.run_checkKey (w := w) hk (k := S k) trivial, hf, Result.andThen, MapKept.run_setObj_map _ hb]
  | some p =>
    obtain ⟨i, u⟩ := p
    rw [hi] at hf
    simp only [Option.map_some, Nat.zero_add] at hf
    refine ⟨_, ?_, ⟨es.eraseIdxIfInBounds i, c, (MapKept.heap_set hb).1, MapKept.stamped_erase hs i, ?_⟩, sameBut_put hb⟩
    · simp [Builtin.delete_, run_underlying ht, MapKept.run_getObj_map hb, MapKept.run_checkKey (w := w) hk (k := S k) trivial, hf, Result.andThen, MapKept.run_setObj_map _ hb]
    · rw [delM_idx hi]
      have h1 : (es.eraseIdxIfInBounds i).toList = es.toList.eraseIdx i := by
        unfold Array.eraseIdxIfInBounds
        split
        · simp only [Array.toList_eraseIdx]
        · rw [List.eraseIdx_of_length_le]; simpa using (by omega : es.size ≤ i)
      rw [h1]
      apply List.ext_getElem?
      intro j
      have hj : ∀ j : Nat, (es.toList.map fun e => (e.key, e.val))[j]? = (m.map entV)[j]? := fun j => by rw [he]
      simp only [List.getElem?_map] at hj
      simp only [List.getElem?_map, List.getElem?_eraseIdx]
      split
      · exact hj j
      · exact hj (j + 1)
/-- .. at the operation -/
theorem wpList_mapPut {ops : Array Oper} {rest : List Oper} {o : Oper} {a : Act} {Q : Exit → Act → World → Prop}
    (hg : o.guard = none) (x k v : Operand) (hop : o.op = Op.mapUpdate t x k v) (ht : P.underlying t = some (.map kt et)) (hk : P.underlying kt = some .string)
    (hx : a.eval x = .map (some g)) (h : MapAt w g m) (key : List UInt8) (hkey : a.eval k = S key) (val : Value) (hv : a.eval v = val)
    (K : ∀ w', MapAt w' g (putM m key val) → SameBut (fun j => j = g) w w' → wpList P ops Q rest (a.put o.dst undef) w') : wpList P ops Q (o :: rest) a w := by
  refine wpList_plain hg fun K' hK' => ?_
  obtain ⟨w', hrun, r1, r2⟩ := h.put ht hk key val
  unfold Oper.wp
  simp only [execOp, hop, hx, hkey, hv, Sem.run_bind, Sem.run_pure, hrun, Result.andThen_ok]
  exact hK' _ _ (K w' r1 r2)
theorem wpList_mapDel {ops : Array Oper} {rest : List Oper} {o : Oper} {a : Act} {Q : Exit → Act → World → Prop}
    (hg : o.guard = none) (x k : Operand) (hop : o.op = .call { callee := .builtin .delete, args := #[x, k], argTypes := #[t, kt] }) (ht : P.underlying t = some (.map kt et)) (hk : P.underlying kt = some .string)
    (hx : a.eval x = .map (some g)) (h : MapAt w g m) (key : List UInt8) (hkey : a.eval k = S key)
    (K : ∀ w', MapAt w' g (delM m key) → SameBut (fun j => j = g) w w' → wpList P ops Q rest (a.put o.dst (.tuple #[])) w') : wpList P ops Q (o :: rest) a w := by
  refine wpList_plain hg fun K' hK' => ?_
  obtain ⟨w', hrun, r1, r2⟩ := h.del ht hk key o.type
  unfold Oper.wp
  simp only [execOp, hop, resolve, invoke, builtin, Sem.run_bind, Sem.run_pure, Result.andThen_ok, List.map_toArray, List.map_cons, List.map_nil, hx, hkey, hrun]
  exact hK' _ _ (K w' r1 r2)
end
end Go.Larder
