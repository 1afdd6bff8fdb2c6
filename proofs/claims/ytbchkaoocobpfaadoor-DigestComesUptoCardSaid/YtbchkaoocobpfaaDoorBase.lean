/- Base for the proofs of this seat: texts as lists of bytes, slices that read as lists, slices that the call owns, small facts. No program in sight. -/
import Derived.WalkKit
import Derived.WalkSpells
import Derived.WalkLawsBesides
import Derived.Handy
import Derived.Lib.Hide
import Derived.Lib.Strings
import Derived.Lib.ConvBytes
import Derived.Laws.BytesArg
import Derived.Deep.Draws
import Derived.Deep.AppendLies
import Derived.Maps.AppendAt
import Derived.Lib.AppendStr
namespace Go.Larder
open Go.RowKit
set_option linter.unusedVariables false
set_option linter.unusedSimpArgs false

/-- A text's value, by its bytes. -/
abbrev S (l : List UInt8) : Value := .string ⟨l.toArray⟩

theorem ba_size (l : List UInt8) : (⟨l.toArray⟩ : ByteArray).size = l.length := by show l.toArray.size = _; simp
theorem ba_get (l : List UInt8) (i : Nat) (h : i < (⟨l.toArray⟩ : ByteArray).size) : (⟨l.toArray⟩ : ByteArray)[i]'h = l[i]'(by rw [ba_size] at h; exact h) := by
  show (l.toArray)[i]'_ = _
  simp
theorem ba_extract (l : List UInt8) (a b : Nat) : (⟨l.toArray⟩ : ByteArray).extract a b = ⟨((l.drop a).take (b - a)).toArray⟩ := ByteArray.extract_mk l a b
theorem ba_append (l m : List UInt8) : (⟨l.toArray⟩ : ByteArray) ++ (⟨m.toArray⟩ : ByteArray) = ⟨(l ++ m).toArray⟩ := by
  apply ByteArray.ext
  simp
theorem ba_toList (l : List UInt8) : (⟨l.toArray⟩ : ByteArray).toList = l := by rw [Lib.toList_data]
theorem isEmpty_snoc {α : Type} (l : List α) (b : α) : (l ++ [b]).isEmpty = false := by simp
theorem int_bne (a b : Int) : (a != b) = !(a == b) := rfl
theorem wrap64_u8 (c : UInt8) : wrap64 (c.toNat : Int) = c.toNat := IntWalk.wrap64_in _ ⟨by have := c.toNat_lt; omega, by have := c.toNat_lt; omega⟩
theorem sing_q (x : UInt8) (n : UInt8) : ([x] == [n]) = ((x.toNat : Int) == (n.toNat : Int)) := by
  rw [Bool.eq_iff_iff]
  simp
  constructor
  · rintro rfl; rfl
  · intro h; exact UInt8.toNat_inj.1 (by omega)
theorem u8_mod32 (c : UInt8) : (c.toNat : Int) % 4294967296 = c.toNat := by have := c.toNat_lt; omega
attribute [go_sem] u8_mod32 wrap64_u8 int_bne ba_size ba_get ba_extract ba_append ba_toList isEmpty_snoc

/-- A text's length, off its value: for a loop's measure. -/
def lenOf : Value → Nat
  | .string b => b.size
  | _ => 0
theorem lenOf_S (l : List UInt8) : lenOf (S l) = l.length := ba_size l

theorem lenOf_empty : lenOf (.string ByteArray.empty) = 0 := rfl

theorem ret_bool {a b : Bool} (h : a = b) : Ending.returned (.bool a) = .returned (.bool b) := by rw [h]
theorem ret_int {k : IntKind} {a b : Int} (h : a = b) : Ending.returned (.int k a) = .returned (.int k b) := by rw [h]
theorem ret_S {a b : List UInt8} (h : a = b) : Ending.returned (S a) = .returned (S b) := by rw [h]

/-- What a test on a byte says of it. -/
theorem u8_beq (c : UInt8) (n : Nat) (h : n < 256) : ((c.toNat : Int) == (n : Int)) = (c == UInt8.ofNat n) := by
  rw [Bool.eq_iff_iff, beq_iff_eq, beq_iff_eq]
  constructor
  · intro e
    have : c.toNat = n := by omega
    rw [← this]; simp
  · rintro rfl
    simp; omega

theorem drop_step {α : Type} {l : List α} {k : Nat} (h : k < l.length) : ∃ x, l[k]? = some x ∧ l.drop k = x :: l.drop (k + 1) :=
  ⟨l[k], List.getElem?_eq_getElem h, List.drop_eq_getElem_cons h⟩
theorem drop_end {α : Type} {l : List α} {k : Nat} (h : ¬ k < l.length) : l.drop k = [] := List.drop_eq_nil_of_le (by omega)

theorem nil_or_snoc {α : Type} (l : List α) : l = [] ∨ ∃ m b, l = m ++ [b] := by
  rcases List.eq_nil_or_concat l with h | ⟨m, b, h⟩
  · exact .inl h
  · exact .inr ⟨m, b, by simpa using h⟩

/-- How an element lies in cells. -/
structure ElemT (α : Type) where
  enc : α → List Value
  size : Nat
  len : ∀ a, (enc a).length = size
  one : ∀ a, ∀ u ∈ enc a, u.oneCell' = true
  pos : 0 < size

def encB : ElemT UInt8 := ⟨fun b => [.int .u8 b.toNat], 1, fun _ => rfl, fun _ u hu => by simp at hu; subst hu; rfl, by omega⟩
def encS : ElemT (List UInt8) := ⟨fun s => [S s], 1, fun _ => rfl, fun _ u hu => by simp at hu; subst hu; rfl, by omega⟩
def encI : ElemT Int := ⟨fun n => [.int .i64 n], 1, fun _ => rfl, fun _ u hu => by simp at hu; subst hu; rfl, by omega⟩
/-- Two texts: a field, a parameter. -/
def encF : ElemT (List UInt8 × List UInt8) := ⟨fun f => [S f.1, S f.2], 2, fun _ => rfl, fun _ u hu => by simp at hu; rcases hu with rfl | rfl <;> rfl, by omega⟩
/-- Two numbers. -/
def encII : ElemT (Int × Int) := ⟨fun f => [.int .i64 f.1, .int .i64 f.2], 2, fun _ => rfl, fun _ u hu => by simp at hu; rcases hu with rfl | rfl <;> rfl, by omega⟩

section
variable {α : Type} (E : ElemT α)

theorem ElemT.length_flatMap (l : List α) : (l.flatMap E.enc).length = l.length * E.size := by
  induction l with
  | nil => simp
  | cons a l ih => simp [List.flatMap_cons, E.len, ih, Nat.add_mul]; omega

theorem ElemT.one_flatMap (l : List α) : ∀ u ∈ l.flatMap E.enc, u.oneCell' = true := by
  intro u hu
  obtain ⟨a, _, h⟩ := List.mem_flatMap.1 hu
  exact E.one a u h

theorem ElemT.get_flatMap : ∀ (l : List α) (k : Nat) (a : α) (j : Nat) (u : Value), l[k]? = some a → (E.enc a)[j]? = some u → (l.flatMap E.enc)[k * E.size + j]? = some u
  | [], k, a, j, u, h, _ => by simp at h
  | x :: l, 0, a, j, u, h, hj => by
    simp at h
    subst h
    rw [List.flatMap_cons, Nat.zero_mul, Nat.zero_add, List.getElem?_append_left]
    · exact hj
    · exact (List.getElem?_eq_some_iff.1 hj).1
  | x :: l, k + 1, a, j, u, h, hj => by
    rw [List.getElem?_cons_succ] at h
    rw [List.flatMap_cons, List.getElem?_append_right (by rw [E.len, Nat.add_mul]; omega), E.len, show (k + 1) * E.size + j - E.size = k * E.size + j from by rw [Nat.add_mul]; omega]
    exact ElemT.get_flatMap l k a j u h hj

/-- The slice '.slice A l.length _' reads as l, in a block below B. -/
def ReadL (w : World) (B : Nat) (A : Option Addr) (l : List α) : Prop :=
  0 < l.length → ∃ b off, A = some ⟨b, off, none⟩ ∧ b < B ∧ ∀ k a, l[k]? = some a → ∀ j u, (E.enc a)[j]? = some u → w.cell? ⟨b, off + k * E.size + j, none⟩ = some u

/-- The slice '.slice A l.length c' holds l in a row of the call's own (from block 'base' on). -/
def OwnL (w : World) (base : Nat) (e : TypeId) (A : Option Addr) (c : Nat) (l : List α) : Prop :=
  w.ownsRow base e E.size (.slice A l.length c) l.length (l.flatMap E.enc)
end

section
variable {α : Type} {E : ElemT α} {w w' : World} {B B' base : Nat} {e : TypeId} {A : Option Addr} {c : Nat} {l : List α}

theorem ReadL.nil : ReadL E w B A ([] : List α) := fun h => absurd h (by simp)
theorem ReadL.keep (h : ReadL E w B A l) (hk : ∀ p : Addr, p.block < B → w'.cell? p = w.cell? p) : ReadL E w' B A l := fun hn => by
  obtain ⟨b, off, rfl, hb, hc⟩ := h hn
  exact ⟨b, off, rfl, hb, fun k a ha j u hu => (hk _ hb).trans (hc k a ha j u hu)⟩
theorem ReadL.more (h : ReadL E w B A l) (hB : B ≤ B') : ReadL E w B' A l := fun hn => by
  obtain ⟨b, off, rfl, hb, hc⟩ := h hn
  exact ⟨b, off, rfl, by omega, hc⟩
theorem ReadL.below (h : ReadL E w B A l) (hb : Below B' w w') (hB : B ≤ B') : ReadL E w' B A l := h.keep fun _ hp => hb.cell (by omega)
theorem ReadL.alloc (h : ReadL E w B A l) (hB : B ≤ w.heap.size) (o : Obj) : ReadL E (w.alloc o) B A l := h.keep fun p hp => World.cell?_alloc_lt w o p (by omega)
theorem ReadL.at_ (h : ReadL E w B A l) {k : Nat} {a : α} (ha : l[k]? = some a) :
    ∃ b off, A = some ⟨b, off, none⟩ ∧ b < B ∧ ∀ j u, (E.enc a)[j]? = some u → w.cell? ⟨b, off + k * E.size + j, none⟩ = some u := by
  obtain ⟨b, off, rfl, hb, hc⟩ := h (by have := (List.getElem?_eq_some_iff.1 ha).1; omega)
  exact ⟨b, off, rfl, hb, hc k a ha⟩
theorem ReadL.at_B {l : List UInt8} (h : ReadL encB w B A l) {k : Nat} {x : UInt8} (hx : l[k]? = some x) : ∃ b off, A = some ⟨b, off, none⟩ ∧ b < B ∧ w.cell? ⟨b, off + k, none⟩ = some (.int .u8 x.toNat) := by
  obtain ⟨b, off, hA, hb, hc⟩ := h.at_ hx
  exact ⟨b, off, hA, hb, by simpa [encB] using hc 0 _ rfl⟩
theorem ReadL.at_S {l : List (List UInt8)} (h : ReadL encS w B A l) {k : Nat} {x : List UInt8} (hx : l[k]? = some x) : ∃ b off, A = some ⟨b, off, none⟩ ∧ b < B ∧ w.cell? ⟨b, off + k, none⟩ = some (S x) := by
  obtain ⟨b, off, hA, hb, hc⟩ := h.at_ hx
  exact ⟨b, off, hA, hb, by simpa [encS] using hc 0 _ rfl⟩
theorem ReadL.at_I {l : List Int} (h : ReadL encI w B A l) {k : Nat} {x : Int} (hx : l[k]? = some x) : ∃ b off, A = some ⟨b, off, none⟩ ∧ b < B ∧ w.cell? ⟨b, off + k, none⟩ = some (.int .i64 x) := by
  obtain ⟨b, off, hA, hb, hc⟩ := h.at_ hx
  exact ⟨b, off, hA, hb, by simpa [encI] using hc 0 _ rfl⟩
theorem ReadL.at_F {l : List (List UInt8 × List UInt8)} (h : ReadL encF w B A l) {k : Nat} {x : List UInt8 × List UInt8} (hx : l[k]? = some x) :
    ∃ b off, A = some ⟨b, off, none⟩ ∧ b < B ∧ w.cell? ⟨b, off + k * 2, none⟩ = some (S x.1) ∧ w.cell? ⟨b, off + k * 2 + 1, none⟩ = some (S x.2) := by
  obtain ⟨b, off, hA, hb, hc⟩ := h.at_ hx
  exact ⟨b, off, hA, hb, by simpa [encF] using hc 0 _ rfl, by simpa [encF] using hc 1 _ rfl⟩
theorem ReadL.at_II {l : List (Int × Int)} (h : ReadL encII w B A l) {k : Nat} {x : Int × Int} (hx : l[k]? = some x) :
    ∃ b off, A = some ⟨b, off, none⟩ ∧ b < B ∧ w.cell? ⟨b, off + k * 2, none⟩ = some (.int .i64 x.1) ∧ w.cell? ⟨b, off + k * 2 + 1, none⟩ = some (.int .i64 x.2) := by
  obtain ⟨b, off, hA, hb, hc⟩ := h.at_ hx
  exact ⟨b, off, hA, hb, by simpa [encII] using hc 0 _ rfl, by simpa [encII] using hc 1 _ rfl⟩
/-- A literal's block reads as the list. -/
theorem ReadL.lit (w : World) (cs : Array Value) (e : TypeId) (l : List α) (h : cs.toList = l.flatMap E.enc) : ReadL E (w.alloc (.cells cs e)) (w.heap.size + 1) (some ⟨w.heap.size, 0, none⟩) l := fun _ =>
  ⟨_, 0, rfl, by omega, fun k a ha j u hu => by
    have := E.get_flatMap l k a j u ha hu
    rw [← h, Array.getElem?_toList] at this
    rw [cell_of_row _ _ _ cs e (0, 0) (heap_alloc_new w _), Nat.zero_add]
    exact this⟩
theorem ReadL.lit' (w : World) (cs : Array Value) (e : TypeId) (l : List α) (h : cs.toList = l.flatMap E.enc) {g : Nat} (hg : g = w.heap.size) : ReadL E (w.alloc (.cells cs e)) (g + 1) (some ⟨g, 0, none⟩) l := by
  subst hg
  exact ReadL.lit w cs e l h
/-- The slice's tail from k on ('s[k:]' keeps the address at the very end). -/
theorem ReadL.drop {b off : Nat} (h : ReadL E w B (some ⟨b, off, none⟩) l) (k : Nat) : ReadL E w B (some ⟨b, off + k * E.size, none⟩) (l.drop k) := fun hn => by
  rw [List.length_drop] at hn
  obtain ⟨b', off', hA, hb, hc⟩ := h (by omega)
  injection hA with hA
  injection hA with h1 h2
  subst h1 h2
  refine ⟨_, _, rfl, hb, fun i a ha j u hu => ?_⟩
  rw [List.getElem?_drop] at ha
  have := hc (k + i) a ha j u hu
  rwa [Nat.add_mul, ← Nat.add_assoc] at this
theorem ReadL.take (h : ReadL E w B A l) (k : Nat) : ReadL E w B A (l.take k) := fun hn => by
  rw [List.length_take] at hn
  obtain ⟨b, off, hA, hb, hc⟩ := h (by omega)
  refine ⟨b, off, hA, hb, fun i a ha j u hu => hc i a ?_ j u hu⟩
  rw [List.getElem?_take] at ha
  split at ha
  · exact ha
  · cases ha

theorem OwnL.nil (w : World) (base : Nat) (e : TypeId) : OwnL E w base e none 0 ([] : List α) := World.ownsRow_nil _ _ _ _
theorem OwnL.read (h : OwnL E w base e A c l) : ReadL E w w.heap.size A l := fun hn => by
  obtain ⟨_, h2⟩ := h
  rcases h2 with ⟨hv, _⟩ | ⟨g, cap, cur, hv, hg, hh, hnc, _, hcs, hcur⟩
  · injection hv with _ hl
    omega
  · injection hv with hA _ _
    subst hA
    refine ⟨g, 0, rfl, ?_, fun k a ha j u hu => ?_⟩
    · rcases Nat.lt_or_ge g w.heap.size with h' | h'
      · exact h'
      · simp [Array.getElem?_eq_none h'] at hh
    · have hx := E.get_flatMap l k a j u ha hu
      rw [cell_of_row w g _ cur e (0, 0) hh, Nat.zero_add, ← Array.getElem?_toList]
      rw [← hcur, List.getElem?_take] at hx
      split at hx
      · exact hx
      · cases hx
theorem OwnL.lt (h : OwnL E w base e A c l) : ∀ g, A = some g → base ≤ g.block ∧ g.block < w.heap.size := fun g hg => by
  subst hg
  exact World.ownsRow.lt h g.block rfl
theorem OwnL.keep (h : OwnL E w base e A c l) (hk : ∀ g, A = some g → w'.heap[g.block]? = w.heap[g.block]?) : OwnL E w' base e A c l := by
  obtain ⟨h1, h2⟩ := h
  refine ⟨h1, ?_⟩
  rcases h2 with h2 | ⟨g, cap, cur, hv, hg, hh, r⟩
  · exact .inl h2
  · injection hv with hA h3 h4
    exact .inr ⟨g, cap, cur, by rw [hA, h4], hg, (hk _ hA).trans hh, r⟩
theorem OwnL.below (h : OwnL E w base e A c l) (hb : Below B w w') (hB : w.heap.size ≤ B) : OwnL E w' base e A c l :=
  h.keep fun g hg => hb.block _ (by have := (h.lt g hg).2; omega)
theorem OwnL.alloc (h : OwnL E w base e A c l) (o : Obj) : OwnL E (w.alloc o) base e A c l := World.ownsRow.alloc h o
theorem OwnL.drew (h : OwnL E w base e A c l) : OwnL E w.drew base e A c l := h
theorem OwnL.drewN (h : OwnL E w base e A c l) (n : Nat) : OwnL E (w.drewN n) base e A c l := h
theorem OwnL.base_le (h : OwnL E w base e A c l) {base' : Nat} (hb : base' ≤ base) : OwnL E w base' e A c l := by
  obtain ⟨h1, h2⟩ := h
  refine ⟨h1, ?_⟩
  rcases h2 with h2 | ⟨g, cap, cur, hv, hg, r⟩
  · exact .inl h2
  · exact .inr ⟨g, cap, cur, hv, by omega, r⟩
theorem OwnL.some_ (h : OwnL E w base e A c l) (hl : 0 < l.length) : ∃ g, A = some ⟨g, 0, none⟩ ∧ base ≤ g ∧ g < w.heap.size := by
  obtain ⟨_, h2⟩ := h
  rcases h2 with ⟨hv, h0⟩ | ⟨g, cap, cur, hv, hg, hh, r⟩
  · omega
  · injection hv with hA _ _
    refine ⟨g, hA, hg, ?_⟩
    rcases Nat.lt_or_ge g w.heap.size with h' | h'
    · exact h'
    · simp [Array.getElem?_eq_none h'] at hh
end

section
variable {α : Type} {E : ElemT α} {w : World} {base g c : Nat} {e : TypeId}
/-- A literal's block is the call's own. -/
theorem own_lit {α : Type} {E : ElemT α} (w : World) (base : Nat) (e : TypeId) (cs : Array Value) (l : List α) (h : cs.toList = l.flatMap E.enc) (hb : base ≤ w.heap.size) (hm : l.length ≤ maxLen) : OwnL E (w.alloc (.cells cs e)) base e (some ⟨w.heap.size, 0, none⟩) l.length l := by
  have hs : cs.size = l.length * E.size := by rw [← Array.length_toList, h, E.length_flatMap]
  have := World.ownsRow_lit (base := base) (size := E.size) (e := e) w cs l.length hb hm hs
  rw [h] at this
  exact this
theorem OwnL.frozen {l : List α} (h : OwnL E w base e (some ⟨g, 0, none⟩) c l) (j : Nat) : w.frozen? ⟨g, j, none⟩ = false := World.ownsRow.frozenAt h j
theorem OwnL.get_S {l : List (List UInt8)} (h : OwnL encS w base e (some ⟨g, 0, none⟩) c l) {j : Nat} {x : List UInt8} (hx : l[j]? = some x) : w.cell? ⟨g, j, none⟩ = some (S x) := by
  obtain ⟨b, off, hA, _, hc⟩ := h.read.at_S hx
  injection hA with hA
  injection hA with h1 h2
  subst h1 h2
  simpa using hc
theorem OwnL.get_B {l : List UInt8} (h : OwnL encB w base e (some ⟨g, 0, none⟩) c l) {j : Nat} {x : UInt8} (hx : l[j]? = some x) : w.cell? ⟨g, j, none⟩ = some (.int .u8 x.toNat) := by
  obtain ⟨b, off, hA, _, hc⟩ := h.read.at_B hx
  injection hA with hA
  injection hA with h1 h2
  subst h1 h2
  simpa using hc
theorem flat_S (l : List (List UInt8)) : l.flatMap encS.enc = l.map fun s => S s := by
  induction l with
  | nil => rfl
  | cons a l ih => rw [List.flatMap_cons, ih]; rfl
theorem flat_B (l : List UInt8) : l.flatMap encB.enc = l.map fun b => .int .u8 b.toNat := by
  induction l with
  | nil => rfl
  | cons a l ih => rw [List.flatMap_cons, ih]; rfl
theorem OwnL.set_S {l : List (List UInt8)} (h : OwnL encS w base e (some ⟨g, 0, none⟩) c l) (j : Nat) (x : List UInt8) :
    OwnL encS (w.setCell ⟨g, j, none⟩ (S x)) base e (some ⟨g, 0, none⟩) c (l.set j x) := by
  have h1 := (World.ownsRow.stored h j (S x)).1
  unfold OwnL
  rw [flat_S] at h1 ⊢
  rw [List.map_set, List.length_set]
  exact h1
theorem OwnL.set_B {l : List UInt8} (h : OwnL encB w base e (some ⟨g, 0, none⟩) c l) (j : Nat) (x : UInt8) :
    OwnL encB (w.setCell ⟨g, j, none⟩ (.int .u8 x.toNat)) base e (some ⟨g, 0, none⟩) c (l.set j x) := by
  have h1 := (World.ownsRow.stored h j (.int .u8 x.toNat)).1
  unfold OwnL
  rw [flat_B] at h1 ⊢
  rw [List.map_set, List.length_set]
  exact h1
end

/-- A slice type and its element type, as the program's table has them. -/
structure SlT (P : Program) (t e : TypeId) (size bytes : Nat) : Prop where
  ht : P.underlying t = some (.slice e)
  info : ∃ i z, P.info? e = some i ∧ i.zero = some z ∧ i.size = size ∧ i.bytes = bytes ∧ z.cells.size = size

theorem SlT.mk' {P : Program} {t e : TypeId} {z : Value} {size bytes : Nat} (ht : P.underlying t = some (.slice e)) (hi : (P.info? e).map (fun i => (i.zero, i.size, i.bytes)) = some (some z, size, bytes)) (hz : z.cells.size = size) : SlT P t e size bytes := by
  obtain ⟨i, h1, h2, h3, h4⟩ := info_parts hi
  exact ⟨ht, i, z, h1, h2, h3, h4, hz⟩

section
variable {P : Program} {w : World} {ops : Array Oper} {rest : List Oper} {o : Oper} {a : Act} {Q : Exit → Act → World → Prop} {t e : TypeId} {size bytes : Nat} {α : Type} {base c : Nat} {A : Option Addr} {l : List α}

/-- 'append(s, x1, .. , xm)': the elements lie in the block that was laid for them. -/
theorem wpList_app (E : ElemT α) (T : SlT P t e E.size bytes) (news : List α) (hgd : o.guard = none) (s x : Operand)
    (ho : o.op = .call { callee := .builtin .append, args := #[s, x], argTypes := #[t, t] })
    (hs : a.eval s = .slice A l.length c) (hown : OwnL E w base e A c l) (cs : Array Value) (hcs : cs.toList = news.flatMap E.enc) (m : Nat) (hm : news.length = m + 1)
    (hx : a.eval x = .slice (some ⟨w.heap.size, 0, none⟩) (m + 1) (m + 1)) (hb : (l.length + (m + 1)) * bytes ≤ 140737488355328) (h63 : l.length + (m + 1) ≤ maxLen) (hbase : base ≤ w.heap.size)
    (k : ∀ g c' w', OwnL E w' base e (some ⟨g, 0, none⟩) c' (l ++ news) → w.grownBy w' (Value.slice A l.length c).ownBlock → Below base w w' → base ≤ g → wpList P ops Q rest (a.put o.dst (.slice (some ⟨g, 0, none⟩) (l.length + (m + 1)) c')) w') :
    wpList P ops Q (o :: rest) a (w.alloc (.cells cs e)) := by
  obtain ⟨i, z, hi, hz, hz1, hz2, hz3⟩ := T.info
  have hlen : news.length = m + 1 := hm
  refine wpList_append_own _ hgd s x t ho base e i z E.size bytes T.ht hi hz hz1 hz2 hz3 E.pos (.slice A l.length c) l.length (l.flatMap E.enc) hs (World.ownsRow.alloc hown _) ⟨w.heap.size, 0, none⟩ (m + 1) (m + 1) (news.flatMap E.enc) hx
    (by rw [E.length_flatMap, hlen]) ?_ (E.one_flatMap news) h63 hb (by simp; omega) ?_
  · intro j u hj
    exact World.news_of_block (heap_alloc_new w (.cells cs e)) j u (by rw [hcs]; exact hj)
  · intro v' w' h1 h2 _
    obtain ⟨g, cap, rfl⟩ : ∃ g cap, v' = .slice (some ⟨g, 0, none⟩) (l.length + (m + 1)) cap := by
      rcases h1.2 with ⟨_, h0⟩ | ⟨g, cap, _, rfl, _⟩
      · omega
      · exact ⟨g, cap, rfl⟩
    have hl : (l ++ news).length = l.length + (m + 1) := by simp [hlen]
    have hg2 : w.grownBy w' (Value.slice A l.length c).ownBlock :=
      ⟨h2.os, h2.tape, h2.output, Nat.le_trans (by simp) h2.size, fun i hi hne => (h2.block i (by simp; omega) hne).trans (Below.heap_alloc w _ i hi)⟩
    refine k g cap w' ?_ hg2 ⟨h2.os, h2.tape, h2.output, Nat.le_trans (by simp) h2.size, fun i hi => hg2.block i (by omega) ?_⟩ ?_
    · unfold OwnL
      rw [hl, List.flatMap_append]
      exact h1
    · intro hne
      cases A with
      | none => simp [Value.ownBlock] at hne
      | some g' =>
        have := (OwnL.lt hown g' rfl).1
        simp [Value.ownBlock] at hne
        omega
    · exact (World.ownsRow.lt h1 g rfl).1
end

/-- '([]T, Errno)': nothing and a number, or a list in new memory and 0. -/
def SlPost {α : Type} (E : ElemT α) (t : TypeId) (w : World) (r : Except Int (List α)) (e : Ending) (w' : World) : Prop := match r with
  | .error n => e = .returned (.tuple #[.slice none 0 0, .int .i64 n]) ∧ Below w.heap.size w w'
  | .ok out => ∃ A c, e = .returned (.tuple #[.slice A out.length c, .int .i64 0]) ∧ OwnL E w' w.heap.size t A c out ∧ Below w.heap.size w w'
theorem SlPost.err {α : Type} {E : ElemT α} {t : TypeId} {w w' : World} {r : Except Int (List α)} {e : Ending} {n : Int} (h : SlPost E t w r e w') (hr : r = .error n) : e = .returned (.tuple #[.slice none 0 0, .int .i64 n]) ∧ Below w.heap.size w w' := by subst hr; exact h
theorem SlPost.ok_ {α : Type} {E : ElemT α} {t : TypeId} {w w' : World} {r : Except Int (List α)} {e : Ending} {out : List α} (h : SlPost E t w r e w') (hr : r = .ok out) : ∃ A c, e = .returned (.tuple #[.slice A out.length c, .int .i64 0]) ∧ OwnL E w' w.heap.size t A c out ∧ Below w.heap.size w w' := by subst hr; exact h

/-- '(string, Errno)': nothing and a number, or a text and 0. -/
def StPost (w : World) (r : Except Int (List UInt8)) (e : Ending) (w' : World) : Prop := (match r with
  | .error n => e = .returned (.tuple #[S [], .int .i64 n])
  | .ok out => e = .returned (.tuple #[S out, .int .i64 0])) ∧ Below w.heap.size w w'

/-- 'string(b)' of a slice that reads as l. -/
theorem run_bytes_str {P : Program} {w : World} {B : Nat} {A : Option Addr} {l : List UInt8} (src dst : TypeId) {e : TypeId} (hs : P.underlying src = some (.slice e)) (he : P.underlying e = some (.int .u8)) (hd : P.underlying dst = some .string) (h : ReadL encB w B A l) (c : Nat) :
    (convert src dst (.slice A l.length c)).run P w = .ok (S l) w := by
  cases l with
  | nil =>
    cases A with
    | none => exact run_convert_bytes_nil w src e hs he 0 c dst hd
    | some ad =>
      obtain ⟨b, off, sp⟩ := ad
      rw [run_convert_bytes_string w src dst e _ _ c hs he hd, run_bytesToString w ⟨b, off, sp⟩ _ c [] (by simpa using run_loadCells_list (P := P) w ⟨b, off, sp⟩ [] (by simp))]
      rfl
  | cons x l =>
    obtain ⟨b, off, rfl, _, hc⟩ := h (by simp)
    have := run_convert_bytes_arg (P := P) w src e hs he b off (x :: l).length c ((x :: l).map fun b => (b.toNat : Int)) (by simp) (fun i hi => by
      have h1 : (x :: l)[i]? = some (x :: l)[i] := List.getElem?_eq_getElem hi
      have h2 := hc i _ h1 0 (.int .u8 ((x :: l)[i]).toNat) rfl
      have h3 : off + i * encB.size + 0 = off + i := by show off + i * 1 + 0 = _; omega
      rw [h3] at h2
      rw [h2, List.getD_eq_getElem?_getD, List.getElem?_map, h1]
      rfl) dst hd
    rw [this]
    congr 2
    unfold strOfNums
    congr 2
    rw [List.map_map]
    conv => rhs; rw [← List.map_id (x :: l)]
    apply List.map_congr_left
    intro y _
    simp

/-- 'string([]byte{..})': a literal's bytes, whatever numbers they are written as. -/
theorem run_lit_str {P : Program} (src dst : TypeId) {e : TypeId} (hs : P.underlying src = some (.slice e)) (he : P.underlying e = some (.int .u8)) (hd : P.underlying dst = some .string) (W : World) (ns : List Int) (cs : Array Value) (hcs : cs.toList = ns.map (Value.int .u8)) (n c : Nat) (hn : n = ns.length) (g : Nat) (hg : g = W.heap.size) :
    (convert src dst (.slice (some ⟨g, 0, none⟩) n c)).run P (W.alloc (.cells cs e)) = .ok (S (ns.map fun n => UInt8.ofNat n.toNat)) (W.alloc (.cells cs e)) := by
  subst hn hg
  have := run_convert_bytes_arg (P := P) (W.alloc (.cells cs e)) src e hs he W.heap.size 0 ns.length c ns rfl (fun i hi => by
    rw [cell_of_row _ _ _ cs e (0, 0) (heap_alloc_new W _), Nat.zero_add, ← Array.getElem?_toList, hcs, List.getElem?_map, List.getD_eq_getElem?_getD, List.getElem?_eq_getElem hi]
    rfl) dst hd
  rw [this]
  rfl

/-- 'append(b, s...)', s a text. -/
theorem wpList_app_str {P : Program} {w : World} {ops : Array Oper} {rest : List Oper} {o : Oper} {a : Act} {Q : Exit → Act → World → Prop} {t tS e : TypeId} {base c : Nat} {A : Option Addr} {l : List UInt8}
    (ht : P.underlying t = some (.slice e)) (hS : P.underlying tS = some .string) (hinfo : (P.info? e).map (fun i => (i.zero, i.size, i.bytes)) = some (some (.int .u8 0), 1, 1)) (hgd : o.guard = none) (s x : Operand)
    (ho : o.op = .call { callee := .builtin .append, args := #[s, x], argTypes := #[t, tS] })
    (hs : a.eval s = .slice A l.length c) (hown : OwnL encB w base e A c l) (m : List UInt8) (hx : a.eval x = S m) (hb : l.length + m.length ≤ 140737488355328) (hbase : base ≤ w.heap.size)
    (k : ∀ A' c' w', OwnL encB w' base e A' c' (l ++ m) → w.grownBy w' (Value.slice A l.length c).ownBlock → Below base w w' → wpList P ops Q rest (a.put o.dst (.slice A' (l.length + m.length) c')) w') :
    wpList P ops Q (o :: rest) a w := by
  obtain ⟨i, hi, hz, hz1, hz2⟩ := info_parts hinfo
  have e1 : (⟨m.toArray⟩ : ByteArray).size = m.length := ba_size m
  refine Lib.wpList_append_own_string w hgd s x t tS ho base e i ht hS hi hz hz1 hz2 _ l.length _ hs hown ⟨m.toArray⟩ hx (by rw [e1]; simp only [maxLen]; omega) (by rw [e1]; exact hb) hbase ?_
  intro v' w' h1 h2 _
  rw [e1] at h1
  obtain ⟨A', cap, rfl⟩ : ∃ A' cap, v' = .slice A' (l.length + m.length) cap := by
    rcases h1.2 with ⟨h, h0⟩ | ⟨g, cap, _, rfl, _⟩
    · exact ⟨none, 0, by rw [h, h0]⟩
    · exact ⟨_, cap, rfl⟩
  have hl : (l ++ m).length = l.length + m.length := by simp
  refine k A' cap w' ?_ h2 ⟨h2.os, h2.tape, h2.output, h2.size, fun j hj => h2.block j (by omega) ?_⟩
  · unfold OwnL
    rw [hl, flat_B, List.map_append, ← flat_B]
    exact h1
  · intro hne
    cases A with
    | none => simp [Value.ownBlock] at hne
    | some g' =>
      have := (OwnL.lt hown g' rfl).1
      simp [Value.ownBlock] at hne
      omega
end Go.Larder
