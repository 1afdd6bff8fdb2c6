/- The plain laws that the walks lean on, in one text. No program in sight. -/
import Derived.WalkKit
import Derived.WalkSpells
import Derived.WalkLawsBesides
import Derived.Handy
import Derived.Lib.Hide
import Derived.Lib.Strings
import Derived.Lib.ConvBytes
import Derived.Laws.BytesArg
import Derived.Deep.Draws
import Derived.Deep.AppendLies
import Derived.Maps.AppendAt
import Derived.Lib.AppendStr
import Derived.Lib.ItoaLen
import Derived.Laws.IdiomStrings
import Derived.Laws.World
import Derived.Lib.Bytealg
import Derived.Lib.IndexMore
import Derived.Lib.IndexBytes
import Derived.Lib.SplitLaws
import Derived.Lib.Join
import Derived.Sort.KeysCollected
import Derived.Maps.Views
import Derived.Maps.Range
/- Base for the proofs of this seat: texts as lists of bytes, slices that read as lists, slices that the call owns, small facts. No program in sight. -/
namespace Go.Larder
open Go.RowKit
set_option linter.unusedVariables false
set_option linter.unusedSimpArgs false

/-- A text's value, by its bytes. -/
abbrev S (l : List UInt8) : Value := .string ⟨l.toArray⟩

theorem ba_size (l : List UInt8) : (⟨l.toArray⟩ : ByteArray).size = l.length := by show l.toArray.size = _; simp
theorem ba_get (l : List UInt8) (i : Nat) (h : i < (⟨l.toArray⟩ : ByteArray).size) : (⟨l.toArray⟩ : ByteArray)[i]'h = l[i]'(by rw [ba_size] at h; exact h) := by
  show (l.toArray)[i]'_ = _
  simp
theorem ba_extract (l : List UInt8) (a b : Nat) : (⟨l.toArray⟩ : ByteArray).extract a b = ⟨((l.drop a).take (b - a)).toArray⟩ := ByteArray.extract_mk l a b
theorem ba_append (l m : List UInt8) : (⟨l.toArray⟩ : ByteArray) ++ (⟨m.toArray⟩ : ByteArray) = ⟨(l ++ m).toArray⟩ := by
  apply ByteArray.ext
  simp
theorem ba_toList (l : List UInt8) : (⟨l.toArray⟩ : ByteArray).toList = l := by rw [Lib.toList_data]
theorem isEmpty_snoc {α : Type} (l : List α) (b : α) : (l ++ [b]).isEmpty = false := by simp
theorem int_bne (a b : Int) : (a != b) = !(a == b) := rfl
theorem wrap64_u8 (c : UInt8) : wrap64 (c.toNat : Int) = c.toNat := IntWalk.wrap64_in _ ⟨by have := c.toNat_lt; omega, by have := c.toNat_lt; omega⟩
theorem sing_q (x : UInt8) (n : UInt8) : ([x] == [n]) = ((x.toNat : Int) == (n.toNat : Int)) := by
  rw [Bool.eq_iff_iff]
  simp
  constructor
  · rintro rfl; rfl
  · intro h; exact UInt8.toNat_inj.1 (by omega)
theorem u8_mod32 (c : UInt8) : (c.toNat : Int) % 4294967296 = c.toNat := by have := c.toNat_lt; omega
attribute [go_sem] u8_mod32 wrap64_u8 int_bne ba_size ba_get ba_extract ba_append ba_toList isEmpty_snoc

/-- A text's length, off its value: for a loop's measure. -/
def lenOf : Value → Nat
  | .string b => b.size
  | _ => 0
theorem lenOf_S (l : List UInt8) : lenOf (S l) = l.length := ba_size l

theorem lenOf_empty : lenOf (.string ByteArray.empty) = 0 := rfl

theorem ret_bool {a b : Bool} (h : a = b) : Ending.returned (.bool a) = .returned (.bool b) := by rw [h]
theorem ret_int {k : IntKind} {a b : Int} (h : a = b) : Ending.returned (.int k a) = .returned (.int k b) := by rw [h]
theorem ret_S {a b : List UInt8} (h : a = b) : Ending.returned (S a) = .returned (S b) := by rw [h]

/-- What a test on a byte says of it. -/
theorem u8_beq (c : UInt8) (n : Nat) (h : n < 256) : ((c.toNat : Int) == (n : Int)) = (c == UInt8.ofNat n) := by
  rw [Bool.eq_iff_iff, beq_iff_eq, beq_iff_eq]
  constructor
  · intro e
    have : c.toNat = n := by omega
    rw [← this]; simp
  · rintro rfl
    simp; omega

theorem drop_step {α : Type} {l : List α} {k : Nat} (h : k < l.length) : ∃ x, l[k]? = some x ∧ l.drop k = x :: l.drop (k + 1) :=
  ⟨l[k], List.getElem?_eq_getElem h, List.drop_eq_getElem_cons h⟩
theorem drop_end {α : Type} {l : List α} {k : Nat} (h : ¬ k < l.length) : l.drop k = [] := List.drop_eq_nil_of_le (by omega)

theorem nil_or_snoc {α : Type} (l : List α) : l = [] ∨ ∃ m b, l = m ++ [b] := by
  rcases List.eq_nil_or_concat l with h | ⟨m, b, h⟩
  · exact .inl h
  · exact .inr ⟨m, b, by simpa using h⟩

/-- How an element lies in cells. -/
structure ElemT (α : Type) where
  enc : α → List Value
  size : Nat
  len : ∀ a, (enc a).length = size
  one : ∀ a, ∀ u ∈ enc a, u.oneCell' = true
  pos : 0 < size

def encB : ElemT UInt8 := ⟨fun b => [.int .u8 b.toNat], 1, fun _ => rfl, fun _ u hu => by simp at hu; subst hu; rfl, by omega⟩
def encL : ElemT (List UInt8) := ⟨fun s => [S s], 1, fun _ => rfl, fun _ u hu => by simp at hu; subst hu; rfl, by omega⟩
def encI : ElemT Int := ⟨fun n => [.int .i64 n], 1, fun _ => rfl, fun _ u hu => by simp at hu; subst hu; rfl, by omega⟩
/-- Two texts: a field, a parameter. -/
def encF : ElemT (List UInt8 × List UInt8) := ⟨fun f => [S f.1, S f.2], 2, fun _ => rfl, fun _ u hu => by simp at hu; rcases hu with rfl | rfl <;> rfl, by omega⟩
/-- Two numbers. -/
def encII : ElemT (Int × Int) := ⟨fun f => [.int .i64 f.1, .int .i64 f.2], 2, fun _ => rfl, fun _ u hu => by simp at hu; rcases hu with rfl | rfl <;> rfl, by omega⟩

section
variable {α : Type} (E : ElemT α)

theorem ElemT.length_flatMap (l : List α) : (l.flatMap E.enc).length = l.length * E.size := by
  induction l with
  | nil => simp
  | cons a l ih => simp [List.flatMap_cons, E.len, ih, Nat.add_mul]; omega

theorem ElemT.one_flatMap (l : List α) : ∀ u ∈ l.flatMap E.enc, u.oneCell' = true := by
  intro u hu
  obtain ⟨a, _, h⟩ := List.mem_flatMap.1 hu
  exact E.one a u h

theorem ElemT.get_flatMap : ∀ (l : List α) (k : Nat) (a : α) (j : Nat) (u : Value), l[k]? = some a → (E.enc a)[j]? = some u → (l.flatMap E.enc)[k * E.size + j]? = some u
  | [], k, a, j, u, h, _ => by simp at h
  | x :: l, 0, a, j, u, h, hj => by
    simp at h
    subst h
    rw [List.flatMap_cons, Nat.zero_mul, Nat.zero_add, List.getElem?_append_left]
    · exact hj
    · exact (List.getElem?_eq_some_iff.1 hj).1
  | x :: l, k + 1, a, j, u, h, hj => by
    rw [List.getElem?_cons_succ] at h
    rw [List.flatMap_cons, List.getElem?_append_right (by rw [E.len, Nat.add_mul]; omega), E.len, show (k + 1) * E.size + j - E.size = k * E.size + j from by rw [Nat.add_mul]; omega]
    exact ElemT.get_flatMap l k a j u h hj

/-- The slice '.slice A l.length _' reads as l, in a block below B. -/
def ReadL (w : World) (B : Nat) (A : Option Addr) (l : List α) : Prop :=
  0 < l.length → ∃ b off, A = some ⟨b, off, none⟩ ∧ b < B ∧ ∀ k a, l[k]? = some a → ∀ j u, (E.enc a)[j]? = some u → w.cell? ⟨b, off + k * E.size + j, none⟩ = some u

/-- The slice '.slice A l.length c' holds l in a row of the call's own (from block 'base' on). -/
def OwnL (w : World) (base : Nat) (e : TypeId) (A : Option Addr) (c : Nat) (l : List α) : Prop :=
  w.ownsRow base e E.size (.slice A l.length c) l.length (l.flatMap E.enc)
end

section
variable {α : Type} {E : ElemT α} {w w' : World} {B B' base : Nat} {e : TypeId} {A : Option Addr} {c : Nat} {l : List α}

theorem ReadL.nil : ReadL E w B A ([] : List α) := fun h => absurd h (by simp)
theorem ReadL.keep (h : ReadL E w B A l) (hk : ∀ p : Addr, p.block < B → w'.cell? p = w.cell? p) : ReadL E w' B A l := fun hn => by
  obtain ⟨b, off, rfl, hb, hc⟩ := h hn
  exact ⟨b, off, rfl, hb, fun k a ha j u hu => (hk _ hb).trans (hc k a ha j u hu)⟩
theorem ReadL.more (h : ReadL E w B A l) (hB : B ≤ B') : ReadL E w B' A l := fun hn => by
  obtain ⟨b, off, rfl, hb, hc⟩ := h hn
  exact ⟨b, off, rfl, by omega, hc⟩
theorem ReadL.below (h : ReadL E w B A l) (hb : Below B' w w') (hB : B ≤ B') : ReadL E w' B A l := h.keep fun _ hp => hb.cell (by omega)
theorem ReadL.alloc (h : ReadL E w B A l) (hB : B ≤ w.heap.size) (o : Obj) : ReadL E (w.alloc o) B A l := h.keep fun p hp => World.cell?_alloc_lt w o p (by omega)
theorem ReadL.at_ (h : ReadL E w B A l) {k : Nat} {a : α} (ha : l[k]? = some a) :
    ∃ b off, A = some ⟨b, off, none⟩ ∧ b < B ∧ ∀ j u, (E.enc a)[j]? = some u → w.cell? ⟨b, off + k * E.size + j, none⟩ = some u := by
  obtain ⟨b, off, rfl, hb, hc⟩ := h (by have := (List.getElem?_eq_some_iff.1 ha).1; omega)
  exact ⟨b, off, rfl, hb, hc k a ha⟩
theorem ReadL.at_B {l : List UInt8} (h : ReadL encB w B A l) {k : Nat} {x : UInt8} (hx : l[k]? = some x) : ∃ b off, A = some ⟨b, off, none⟩ ∧ b < B ∧ w.cell? ⟨b, off + k, none⟩ = some (.int .u8 x.toNat) := by
  obtain ⟨b, off, hA, hb, hc⟩ := h.at_ hx
  exact ⟨b, off, hA, hb, by simpa [encB] using hc 0 _ rfl⟩
theorem ReadL.at_S {l : List (List UInt8)} (h : ReadL encL w B A l) {k : Nat} {x : List UInt8} (hx : l[k]? = some x) : ∃ b off, A = some ⟨b, off, none⟩ ∧ b < B ∧ w.cell? ⟨b, off + k, none⟩ = some (S x) := by
  obtain ⟨b, off, hA, hb, hc⟩ := h.at_ hx
  exact ⟨b, off, hA, hb, by simpa [encL] using hc 0 _ rfl⟩
theorem ReadL.at_I {l : List Int} (h : ReadL encI w B A l) {k : Nat} {x : Int} (hx : l[k]? = some x) : ∃ b off, A = some ⟨b, off, none⟩ ∧ b < B ∧ w.cell? ⟨b, off + k, none⟩ = some (.int .i64 x) := by
  obtain ⟨b, off, hA, hb, hc⟩ := h.at_ hx
  exact ⟨b, off, hA, hb, by simpa [encI] using hc 0 _ rfl⟩
theorem ReadL.at_F {l : List (List UInt8 × List UInt8)} (h : ReadL encF w B A l) {k : Nat} {x : List UInt8 × List UInt8} (hx : l[k]? = some x) :
    ∃ b off, A = some ⟨b, off, none⟩ ∧ b < B ∧ w.cell? ⟨b, off + k * 2, none⟩ = some (S x.1) ∧ w.cell? ⟨b, off + k * 2 + 1, none⟩ = some (S x.2) := by
  obtain ⟨b, off, hA, hb, hc⟩ := h.at_ hx
  exact ⟨b, off, hA, hb, by simpa [encF] using hc 0 _ rfl, by simpa [encF] using hc 1 _ rfl⟩
theorem ReadL.at_II {l : List (Int × Int)} (h : ReadL encII w B A l) {k : Nat} {x : Int × Int} (hx : l[k]? = some x) :
    ∃ b off, A = some ⟨b, off, none⟩ ∧ b < B ∧ w.cell? ⟨b, off + k * 2, none⟩ = some (.int .i64 x.1) ∧ w.cell? ⟨b, off + k * 2 + 1, none⟩ = some (.int .i64 x.2) := by
  obtain ⟨b, off, hA, hb, hc⟩ := h.at_ hx
  exact ⟨b, off, hA, hb, by simpa [encII] using hc 0 _ rfl, by simpa [encII] using hc 1 _ rfl⟩
/-- A literal's block reads as the list. -/
theorem ReadL.lit (w : World) (cs : Array Value) (e : TypeId) (l : List α) (h : cs.toList = l.flatMap E.enc) : ReadL E (w.alloc (.cells cs e)) (w.heap.size + 1) (some ⟨w.heap.size, 0, none⟩) l := fun _ =>
  ⟨_, 0, rfl, by omega, fun k a ha j u hu => by
    have := E.get_flatMap l k a j u ha hu
    rw [← h, Array.getElem?_toList] at this
    rw [cell_of_row _ _ _ cs e (0, 0) (heap_alloc_new w _), Nat.zero_add]
    exact this⟩
theorem ReadL.lit' (w : World) (cs : Array Value) (e : TypeId) (l : List α) (h : cs.toList = l.flatMap E.enc) {g : Nat} (hg : g = w.heap.size) : ReadL E (w.alloc (.cells cs e)) (g + 1) (some ⟨g, 0, none⟩) l := by
  subst hg
  exact ReadL.lit w cs e l h
/-- The slice's tail from k on ('s[k:]' keeps the address at the very end). -/
theorem ReadL.drop {b off : Nat} (h : ReadL E w B (some ⟨b, off, none⟩) l) (k : Nat) : ReadL E w B (some ⟨b, off + k * E.size, none⟩) (l.drop k) := fun hn => by
  rw [List.length_drop] at hn
  obtain ⟨b', off', hA, hb, hc⟩ := h (by omega)
  injection hA with hA
  injection hA with h1 h2
  subst h1 h2
  refine ⟨_, _, rfl, hb, fun i a ha j u hu => ?_⟩
  rw [List.getElem?_drop] at ha
  have := hc (k + i) a ha j u hu
  rwa [Nat.add_mul, ← Nat.add_assoc] at this
theorem ReadL.take (h : ReadL E w B A l) (k : Nat) : ReadL E w B A (l.take k) := fun hn => by
  rw [List.length_take] at hn
  obtain ⟨b, off, hA, hb, hc⟩ := h (by omega)
  refine ⟨b, off, hA, hb, fun i a ha j u hu => hc i a ?_ j u hu⟩
  rw [List.getElem?_take] at ha
  split at ha
  · exact ha
  · cases ha

theorem OwnL.nil (w : World) (base : Nat) (e : TypeId) : OwnL E w base e none 0 ([] : List α) := World.ownsRow_nil _ _ _ _
theorem OwnL.read (h : OwnL E w base e A c l) : ReadL E w w.heap.size A l := fun hn => by
  obtain ⟨_, h2⟩ := h
  rcases h2 with ⟨hv, _⟩ | ⟨g, cap, cur, hv, hg, hh, hnc, _, hcs, hcur⟩
  · injection hv with _ hl
    omega
  · injection hv with hA _ _
    subst hA
    refine ⟨g, 0, rfl, ?_, fun k a ha j u hu => ?_⟩
    · rcases Nat.lt_or_ge g w.heap.size with h' | h'
      · exact h'
      · simp [Array.getElem?_eq_none h'] at hh
    · have hx := E.get_flatMap l k a j u ha hu
      rw [cell_of_row w g _ cur e (0, 0) hh, Nat.zero_add, ← Array.getElem?_toList]
      rw [← hcur, List.getElem?_take] at hx
      split at hx
      · exact hx
      · cases hx
theorem OwnL.lt (h : OwnL E w base e A c l) : ∀ g, A = some g → base ≤ g.block ∧ g.block < w.heap.size := fun g hg => by
  subst hg
  exact World.ownsRow.lt h g.block rfl
theorem OwnL.keep (h : OwnL E w base e A c l) (hk : ∀ g, A = some g → w'.heap[g.block]? = w.heap[g.block]?) : OwnL E w' base e A c l := by
  obtain ⟨h1, h2⟩ := h
  refine ⟨h1, ?_⟩
  rcases h2 with h2 | ⟨g, cap, cur, hv, hg, hh, r⟩
  · exact .inl h2
  · injection hv with hA h3 h4
    exact .inr ⟨g, cap, cur, by rw [hA, h4], hg, (hk _ hA).trans hh, r⟩
theorem OwnL.below (h : OwnL E w base e A c l) (hb : Below B w w') (hB : w.heap.size ≤ B) : OwnL E w' base e A c l :=
  h.keep fun g hg => hb.block _ (by have := (h.lt g hg).2; omega)
theorem OwnL.alloc (h : OwnL E w base e A c l) (o : Obj) : OwnL E (w.alloc o) base e A c l := World.ownsRow.alloc h o
theorem OwnL.drew (h : OwnL E w base e A c l) : OwnL E w.drew base e A c l := h
theorem OwnL.drewN (h : OwnL E w base e A c l) (n : Nat) : OwnL E (w.drewN n) base e A c l := h
theorem OwnL.base_le (h : OwnL E w base e A c l) {base' : Nat} (hb : base' ≤ base) : OwnL E w base' e A c l := by
  obtain ⟨h1, h2⟩ := h
  refine ⟨h1, ?_⟩
  rcases h2 with h2 | ⟨g, cap, cur, hv, hg, r⟩
  · exact .inl h2
  · exact .inr ⟨g, cap, cur, hv, by omega, r⟩
theorem OwnL.some_ (h : OwnL E w base e A c l) (hl : 0 < l.length) : ∃ g, A = some ⟨g, 0, none⟩ ∧ base ≤ g ∧ g < w.heap.size := by
  obtain ⟨_, h2⟩ := h
  rcases h2 with ⟨hv, h0⟩ | ⟨g, cap, cur, hv, hg, hh, r⟩
  · omega
  · injection hv with hA _ _
    refine ⟨g, hA, hg, ?_⟩
    rcases Nat.lt_or_ge g w.heap.size with h' | h'
    · exact h'
    · simp [Array.getElem?_eq_none h'] at hh
end

section
variable {α : Type} {E : ElemT α} {w : World} {base g c : Nat} {e : TypeId}
/-- A literal's block is the call's own. -/
theorem own_lit {α : Type} {E : ElemT α} (w : World) (base : Nat) (e : TypeId) (cs : Array Value) (l : List α) (h : cs.toList = l.flatMap E.enc) (hb : base ≤ w.heap.size) (hm : l.length ≤ maxLen) : OwnL E (w.alloc (.cells cs e)) base e (some ⟨w.heap.size, 0, none⟩) l.length l := by
  have hs : cs.size = l.length * E.size := by rw [← Array.length_toList, h, E.length_flatMap]
  have := World.ownsRow_lit (base := base) (size := E.size) (e := e) w cs l.length hb hm hs
  rw [h] at this
  exact this
theorem OwnL.frozen {l : List α} (h : OwnL E w base e (some ⟨g, 0, none⟩) c l) (j : Nat) : w.frozen? ⟨g, j, none⟩ = false := World.ownsRow.frozenAt h j
theorem OwnL.get_S {l : List (List UInt8)} (h : OwnL encL w base e (some ⟨g, 0, none⟩) c l) {j : Nat} {x : List UInt8} (hx : l[j]? = some x) : w.cell? ⟨g, j, none⟩ = some (S x) := by
  obtain ⟨b, off, hA, _, hc⟩ := h.read.at_S hx
  injection hA with hA
  injection hA with h1 h2
  subst h1 h2
  simpa using hc
theorem OwnL.get_B {l : List UInt8} (h : OwnL encB w base e (some ⟨g, 0, none⟩) c l) {j : Nat} {x : UInt8} (hx : l[j]? = some x) : w.cell? ⟨g, j, none⟩ = some (.int .u8 x.toNat) := by
  obtain ⟨b, off, hA, _, hc⟩ := h.read.at_B hx
  injection hA with hA
  injection hA with h1 h2
  subst h1 h2
  simpa using hc
theorem flat_S (l : List (List UInt8)) : l.flatMap encL.enc = l.map fun s => S s := by
  induction l with
  | nil => rfl
  | cons a l ih => rw [List.flatMap_cons, ih]; rfl
theorem flat_B (l : List UInt8) : l.flatMap encB.enc = l.map fun b => .int .u8 b.toNat := by
  induction l with
  | nil => rfl
  | cons a l ih => rw [List.flatMap_cons, ih]; rfl
theorem OwnL.set_S {l : List (List UInt8)} (h : OwnL encL w base e (some ⟨g, 0, none⟩) c l) (j : Nat) (x : List UInt8) :
    OwnL encL (w.setCell ⟨g, j, none⟩ (S x)) base e (some ⟨g, 0, none⟩) c (l.set j x) := by
  have h1 := (World.ownsRow.stored h j (S x)).1
  unfold OwnL
  rw [flat_S] at h1 ⊢
  rw [List.map_set, List.length_set]
  exact h1
theorem OwnL.set_B {l : List UInt8} (h : OwnL encB w base e (some ⟨g, 0, none⟩) c l) (j : Nat) (x : UInt8) :
    OwnL encB (w.setCell ⟨g, j, none⟩ (.int .u8 x.toNat)) base e (some ⟨g, 0, none⟩) c (l.set j x) := by
  have h1 := (World.ownsRow.stored h j (.int .u8 x.toNat)).1
  unfold OwnL
  rw [flat_B] at h1 ⊢
  rw [List.map_set, List.length_set]
  exact h1
end

/-- A slice type and its element type, as the program's table has them. -/
structure SlT (P : Program) (t e : TypeId) (size bytes : Nat) : Prop where
  ht : P.underlying t = some (.slice e)
  info : ∃ i z, P.info? e = some i ∧ i.zero = some z ∧ i.size = size ∧ i.bytes = bytes ∧ z.cells.size = size

theorem SlT.mk' {P : Program} {t e : TypeId} {z : Value} {size bytes : Nat} (ht : P.underlying t = some (.slice e)) (hi : (P.info? e).map (fun i => (i.zero, i.size, i.bytes)) = some (some z, size, bytes)) (hz : z.cells.size = size) : SlT P t e size bytes := by
  obtain ⟨i, h1, h2, h3, h4⟩ := info_parts hi
  exact ⟨ht, i, z, h1, h2, h3, h4, hz⟩

section
variable {P : Program} {w : World} {ops : Array Oper} {rest : List Oper} {o : Oper} {a : Act} {Q : Exit → Act → World → Prop} {t e : TypeId} {size bytes : Nat} {α : Type} {base c : Nat} {A : Option Addr} {l : List α}

/-- 'append(s, x1, .. , xm)': the elements lie in the block that was laid for them. -/
theorem wpList_app (E : ElemT α) (T : SlT P t e E.size bytes) (news : List α) (hgd : o.guard = none) (s x : Operand)
    (ho : o.op = .call { callee := .builtin .append, args := #[s, x], argTypes := #[t, t] })
    (hs : a.eval s = .slice A l.length c) (hown : OwnL E w base e A c l) (cs : Array Value) (hcs : cs.toList = news.flatMap E.enc) (m : Nat) (hm : news.length = m + 1)
    (hx : a.eval x = .slice (some ⟨w.heap.size, 0, none⟩) (m + 1) (m + 1)) (hb : (l.length + (m + 1)) * bytes ≤ 140737488355328) (h63 : l.length + (m + 1) ≤ maxLen) (hbase : base ≤ w.heap.size)
    (k : ∀ g c' w', OwnL E w' base e (some ⟨g, 0, none⟩) c' (l ++ news) → w.grownBy w' (Value.slice A l.length c).ownBlock → Below base w w' → base ≤ g → wpList P ops Q rest (a.put o.dst (.slice (some ⟨g, 0, none⟩) (l.length + (m + 1)) c')) w') :
    wpList P ops Q (o :: rest) a (w.alloc (.cells cs e)) := by
  obtain ⟨i, z, hi, hz, hz1, hz2, hz3⟩ := T.info
  have hlen : news.length = m + 1 := hm
  refine wpList_append_own _ hgd s x t ho base e i z E.size bytes T.ht hi hz hz1 hz2 hz3 E.pos (.slice A l.length c) l.length (l.flatMap E.enc) hs (World.ownsRow.alloc hown _) ⟨w.heap.size, 0, none⟩ (m + 1) (m + 1) (news.flatMap E.enc) hx
    (by rw [E.length_flatMap, hlen]) ?_ (E.one_flatMap news) h63 hb (by simp; omega) ?_
  · intro j u hj
    exact World.news_of_block (heap_alloc_new w (.cells cs e)) j u (by rw [hcs]; exact hj)
  · intro v' w' h1 h2 _
    obtain ⟨g, cap, rfl⟩ : ∃ g cap, v' = .slice (some ⟨g, 0, none⟩) (l.length + (m + 1)) cap := by
      rcases h1.2 with ⟨_, h0⟩ | ⟨g, cap, _, rfl, _⟩
      · omega
      · exact ⟨g, cap, rfl⟩
    have hl : (l ++ news).length = l.length + (m + 1) := by simp [hlen]
    have hg2 : w.grownBy w' (Value.slice A l.length c).ownBlock :=
      ⟨h2.os, h2.tape, h2.output, Nat.le_trans (by simp) h2.size, fun i hi hne => (h2.block i (by simp; omega) hne).trans (Below.heap_alloc w _ i hi)⟩
    refine k g cap w' ?_ hg2 ⟨h2.os, h2.tape, h2.output, Nat.le_trans (by simp) h2.size, fun i hi => hg2.block i (by omega) ?_⟩ ?_
    · unfold OwnL
      rw [hl, List.flatMap_append]
      exact h1
    · intro hne
      cases A with
      | none => simp [Value.ownBlock] at hne
      | some g' =>
        have := (OwnL.lt hown g' rfl).1
        simp [Value.ownBlock] at hne
        omega
    · exact (World.ownsRow.lt h1 g rfl).1
end

/-- '([]T, Errno)': nothing and a number, or a list in new memory and 0. -/
def SlPost {α : Type} (E : ElemT α) (t : TypeId) (w : World) (r : Except Int (List α)) (e : Ending) (w' : World) : Prop := match r with
  | .error n => e = .returned (.tuple #[.slice none 0 0, .int .i64 n]) ∧ Below w.heap.size w w'
  | .ok out => ∃ A c, e = .returned (.tuple #[.slice A out.length c, .int .i64 0]) ∧ OwnL E w' w.heap.size t A c out ∧ Below w.heap.size w w'
theorem SlPost.err {α : Type} {E : ElemT α} {t : TypeId} {w w' : World} {r : Except Int (List α)} {e : Ending} {n : Int} (h : SlPost E t w r e w') (hr : r = .error n) : e = .returned (.tuple #[.slice none 0 0, .int .i64 n]) ∧ Below w.heap.size w w' := by subst hr; exact h
theorem SlPost.ok_ {α : Type} {E : ElemT α} {t : TypeId} {w w' : World} {r : Except Int (List α)} {e : Ending} {out : List α} (h : SlPost E t w r e w') (hr : r = .ok out) : ∃ A c, e = .returned (.tuple #[.slice A out.length c, .int .i64 0]) ∧ OwnL E w' w.heap.size t A c out ∧ Below w.heap.size w w' := by subst hr; exact h

/-- '(string, Errno)': nothing and a number, or a text and 0. -/
def StPost (w : World) (r : Except Int (List UInt8)) (e : Ending) (w' : World) : Prop := (match r with
  | .error n => e = .returned (.tuple #[S [], .int .i64 n])
  | .ok out => e = .returned (.tuple #[S out, .int .i64 0])) ∧ Below w.heap.size w w'

/-- 'string(b)' of a slice that reads as l. -/
theorem run_bytes_str {P : Program} {w : World} {B : Nat} {A : Option Addr} {l : List UInt8} (src dst : TypeId) {e : TypeId} (hs : P.underlying src = some (.slice e)) (he : P.underlying e = some (.int .u8)) (hd : P.underlying dst = some .string) (h : ReadL encB w B A l) (c : Nat) :
    (convert src dst (.slice A l.length c)).run P w = .ok (S l) w := by
  cases l with
  | nil =>
    cases A with
    | none => exact run_convert_bytes_nil w src e hs he 0 c dst hd
    | some ad =>
      obtain ⟨b, off, sp⟩ := ad
      rw [run_convert_bytes_string w src dst e _ _ c hs he hd, run_bytesToString w ⟨b, off, sp⟩ _ c [] (by simpa using run_loadCells_list (P := P) w ⟨b, off, sp⟩ [] (by simp))]
      rfl
  | cons x l =>
    obtain ⟨b, off, rfl, _, hc⟩ := h (by simp)
    have := run_convert_bytes_arg (P := P) w src e hs he b off (x :: l).length c ((x :: l).map fun b => (b.toNat : Int)) (by simp) (fun i hi => by
      have h1 : (x :: l)[i]? = some (x :: l)[i] := List.getElem?_eq_getElem hi
      have h2 := hc i _ h1 0 (.int .u8 ((x :: l)[i]).toNat) rfl
      have h3 : off + i * encB.size + 0 = off + i := by show off + i * 1 + 0 = _; omega
      rw [h3] at h2
      rw [h2, List.getD_eq_getElem?_getD, List.getElem?_map, h1]
      rfl) dst hd
    rw [this]
    congr 2
    unfold strOfNums
    congr 2
    rw [List.map_map]
    conv => rhs; rw [← List.map_id (x :: l)]
    apply List.map_congr_left
    intro y _
    simp

/-- 'string([]byte{..})': a literal's bytes, whatever numbers they are written as. -/
theorem run_lit_str {P : Program} (src dst : TypeId) {e : TypeId} (hs : P.underlying src = some (.slice e)) (he : P.underlying e = some (.int .u8)) (hd : P.underlying dst = some .string) (W : World) (ns : List Int) (cs : Array Value) (hcs : cs.toList = ns.map (Value.int .u8)) (n c : Nat) (hn : n = ns.length) (g : Nat) (hg : g = W.heap.size) :
    (convert src dst (.slice (some ⟨g, 0, none⟩) n c)).run P (W.alloc (.cells cs e)) = .ok (S (ns.map fun n => UInt8.ofNat n.toNat)) (W.alloc (.cells cs e)) := by
  subst hn hg
  have := run_convert_bytes_arg (P := P) (W.alloc (.cells cs e)) src e hs he W.heap.size 0 ns.length c ns rfl (fun i hi => by
    rw [cell_of_row _ _ _ cs e (0, 0) (heap_alloc_new W _), Nat.zero_add, ← Array.getElem?_toList, hcs, List.getElem?_map, List.getD_eq_getElem?_getD, List.getElem?_eq_getElem hi]
    rfl) dst hd
  rw [this]
  rfl

/-- 'append(b, s...)', s a text. -/
theorem wpList_app_str {P : Program} {w : World} {ops : Array Oper} {rest : List Oper} {o : Oper} {a : Act} {Q : Exit → Act → World → Prop} {t tS e : TypeId} {base c : Nat} {A : Option Addr} {l : List UInt8}
    (ht : P.underlying t = some (.slice e)) (hS : P.underlying tS = some .string) (hinfo : (P.info? e).map (fun i => (i.zero, i.size, i.bytes)) = some (some (.int .u8 0), 1, 1)) (hgd : o.guard = none) (s x : Operand)
    (ho : o.op = .call { callee := .builtin .append, args := #[s, x], argTypes := #[t, tS] })
    (hs : a.eval s = .slice A l.length c) (hown : OwnL encB w base e A c l) (m : List UInt8) (hx : a.eval x = S m) (hb : l.length + m.length ≤ 140737488355328) (hbase : base ≤ w.heap.size)
    (k : ∀ A' c' w', OwnL encB w' base e A' c' (l ++ m) → w.grownBy w' (Value.slice A l.length c).ownBlock → Below base w w' → wpList P ops Q rest (a.put o.dst (.slice A' (l.length + m.length) c')) w') :
    wpList P ops Q (o :: rest) a w := by
  obtain ⟨i, hi, hz, hz1, hz2⟩ := info_parts hinfo
  have e1 : (⟨m.toArray⟩ : ByteArray).size = m.length := ba_size m
  refine Lib.wpList_append_own_string w hgd s x t tS ho base e i ht hS hi hz hz1 hz2 _ l.length _ hs hown ⟨m.toArray⟩ hx (by rw [e1]; simp only [maxLen]; omega) (by rw [e1]; exact hb) hbase ?_
  intro v' w' h1 h2 _
  rw [e1] at h1
  obtain ⟨A', cap, rfl⟩ : ∃ A' cap, v' = .slice A' (l.length + m.length) cap := by
    rcases h1.2 with ⟨h, h0⟩ | ⟨g, cap, _, rfl, _⟩
    · exact ⟨none, 0, by rw [h, h0]⟩
    · exact ⟨_, cap, rfl⟩
  have hl : (l ++ m).length = l.length + m.length := by simp
  refine k A' cap w' ?_ h2 ⟨h2.os, h2.tape, h2.output, h2.size, fun j hj => h2.block j (by omega) ?_⟩
  · unfold OwnL
    rw [hl, flat_B, List.map_append, ← flat_B]
    exact h1
  · intro hne
    cases A with
    | none => simp [Value.ownBlock] at hne
    | some g' =>
      have := (OwnL.lt hown g' rfl).1
      simp [Value.ownBlock] at hne
      omega
end Go.Larder

/- The calendar, in plain numbers: days before a year, days before a month, and that the closed formulas of package date agree with the count. No program in sight. -/
namespace Go.Larder
set_option linter.unusedVariables false
set_option linter.unusedSimpArgs false

def lp (y : Int) : Bool := y % 400 == 0 || (!(y % 100 == 0) && y % 4 == 0)
def lpI (y : Int) : Int := if lp y then 1 else 0
theorem lpI_bd (y : Int) : 0 ≤ lpI y ∧ lpI y ≤ 1 := by unfold lpI; split <;> omega
theorem lp_eq (y : Int) : (y % 4 == 0 && (!(y % 100 == 0) || y % 400 == 0)) = lp y := by
  unfold lp
  rw [Bool.eq_iff_iff]
  simp
  omega

/-- Days ahead of a year. -/
def yd (y : Int) : Int := 365 * (y - 1970) + (y - 1) / 4 - (y - 1) / 100 + (y - 1) / 400 - 477
theorem yd_succ (y : Int) : yd (y + 1) = yd y + 365 + lpI y := by
  unfold yd lpI lp
  split
  · rename_i h; simp at h; omega
  · rename_i h; simp at h; omega
theorem yd_mono {a b : Int} (h : a ≤ b) : yd a ≤ yd b := by unfold yd; omega
theorem yd_step {a b : Int} (h : a < b) : yd a + 365 + lpI a ≤ yd b := by
  rw [← yd_succ]; exact yd_mono (by omega)

/-- Days of a month, months from 0 on. -/
def md (y : Int) : Nat → Int
  | 0 => 31 | 1 => 28 + lpI y | 2 => 31 | 3 => 30 | 4 => 31 | 5 => 30 | 6 => 31 | 7 => 31 | 8 => 30 | 9 => 31 | 10 => 30 | _ => 31
/-- Days ahead of a month. -/
def cum (y : Int) : Nat → Int
  | 0 => 0 | 1 => 31 | 2 => 59 + lpI y | 3 => 90 + lpI y | 4 => 120 + lpI y | 5 => 151 + lpI y | 6 => 181 + lpI y | 7 => 212 + lpI y | 8 => 243 + lpI y | 9 => 273 + lpI y | 10 => 304 + lpI y | _ => 334 + lpI y
theorem months {P : Nat → Prop} (h0 : P 0) (h1 : P 1) (h2 : P 2) (h3 : P 3) (h4 : P 4) (h5 : P 5) (h6 : P 6) (h7 : P 7) (h8 : P 8) (h9 : P 9) (h10 : P 10) (h11 : P 11) : ∀ m, m < 12 → P m
  | 0, _ => h0 | 1, _ => h1 | 2, _ => h2 | 3, _ => h3 | 4, _ => h4 | 5, _ => h5 | 6, _ => h6 | 7, _ => h7 | 8, _ => h8 | 9, _ => h9 | 10, _ => h10 | 11, _ => h11
  | n + 12, h => by omega
theorem md_bd (y : Int) (m : Nat) : 28 ≤ md y m ∧ md y m ≤ 31 := by
  have := lpI_bd y
  unfold md
  split <;> omega
theorem cum_succ (y : Int) (m : Nat) (h : m < 11) : cum y (m + 1) = cum y m + md y m := by
  revert h; revert m
  intro m h
  have : m = 0 ∨ m = 1 ∨ m = 2 ∨ m = 3 ∨ m = 4 ∨ m = 5 ∨ m = 6 ∨ m = 7 ∨ m = 8 ∨ m = 9 ∨ m = 10 := by omega
  rcases this with rfl | rfl | rfl | rfl | rfl | rfl | rfl | rfl | rfl | rfl | rfl <;> simp only [cum, md] <;> omega
theorem cum_last (y : Int) : cum y 11 + md y 11 = 365 + lpI y := by simp only [cum, md]; omega
theorem cum_le (y : Int) : ∀ a b : Nat, a ≤ b → b < 12 → cum y a ≤ cum y b := by
  intro a b h hb
  have := lpI_bd y
  induction b with
  | zero => obtain rfl : a = 0 := by omega
            exact Int.le_refl _
  | succ b ih =>
    rcases Nat.lt_or_ge b a with h1 | h1
    · obtain rfl : a = b + 1 := by omega
      exact Int.le_refl _
    · have h2 := ih h1 (by omega)
      have h3 := cum_succ y b (by omega)
      have h4 := md_bd y b
      omega
theorem cum_step (y : Int) (a b : Nat) (h : a < b) (hb : b < 12) : cum y a + md y a ≤ cum y b := by
  rw [← cum_succ y a (by omega)]; exact cum_le y _ _ (by omega) hb
theorem cum_top (y : Int) (m : Nat) (h : m < 12) : cum y m + md y m ≤ 365 + lpI y := by
  rcases Nat.lt_or_ge m 11 with h1 | h1
  · have := cum_step y m 11 h1 (by omega)
    have := cum_last y
    have := md_bd y 11
    omega
  · obtain rfl : m = 11 := by omega
    have := cum_last y
    omega
theorem cum_bd (y : Int) (m : Nat) : 0 ≤ cum y m ∧ cum y m ≤ 335 := by
  have := lpI_bd y
  unfold cum
  split <;> omega

/-- Day n is day r (from 0 on) of month m (from 0 on) of year y. -/
structure IsCivil (n y : Int) (m : Nat) (r : Int) : Prop where
  y0 : 1970 ≤ y
  m1 : m < 12
  r0 : 0 ≤ r
  r1 : r < md y m
  eq : n = yd y + cum y m + r

theorem civil_exists : ∀ n : Nat, ∃ y m r, IsCivil n y m r
  | 0 => ⟨1970, 0, 0, by omega, by omega, by omega, by simp [md], by simp [yd, cum]⟩
  | n + 1 => by
    obtain ⟨y, m, r, h⟩ := civil_exists n
    have hd := md_bd y
    rcases Int.lt_or_le (r + 1) (md y m) with h1 | h1
    · exact ⟨y, m, r + 1, h.y0, h.m1, by have := h.r0; omega, h1, by have := h.eq; omega⟩
    · rcases Nat.lt_or_ge m 11 with h2 | h2
      · exact ⟨y, m + 1, 0, h.y0, by omega, by omega, by have := hd (m + 1); omega, by
          have := h.eq
          have := cum_succ y m h2
          have := h.r1
          omega⟩
      · obtain rfl : m = 11 := by have := h.m1; omega
        exact ⟨y + 1, 0, 0, by have := h.y0; omega, by omega, by omega, by simp [md], by
          have := h.eq
          have := h.r1
          have := cum_last y
          rw [yd_succ]
          show _ = _ + 0 + 0
          omega⟩

theorem IsCivil.y1 {n y r : Int} {m : Nat} (h : IsCivil n y m r) (hn : n ≤ 2932896) : y ≤ 9999 := by
  rcases Int.lt_or_le 9999 y with h1 | h1
  · have h2 := yd_mono (show (10000 : Int) ≤ y by omega)
    have h3 : yd 10000 = 2932897 := by decide
    have := h.eq
    have := (cum_bd y m).1
    have := h.r0
    omega
  · exact h1

/-- The first day of a year of 400 that begins with March. -/
def sy (r : Int) : Int := 365 * r + r / 4 - r / 100
def fy (d : Int) : Int := d - d / 1460 + d / 36524 - d / 146096
theorem fy_mono {a b : Int} (h0 : 0 ≤ a) (h : a ≤ b) : fy a ≤ fy b := by unfold fy; omega
/-- The last day of the year r of 400. -/
def ly (r : Int) : Int := if (r + 1) % 4 == 0 && (!((r + 1) % 100 == 0) || r == 399) then 365 else 364
theorem fy_ends : ∀ r : Fin 400, fy (sy (r.val : Int)) / 365 = r.val ∧ fy (sy (r.val : Int) + ly r.val) / 365 = r.val ∧ sy r.val + ly r.val < 146097 := by decide +kernel
theorem fy_year (r d : Int) (h0 : 0 ≤ r) (h1 : r < 400) (hd0 : 0 ≤ d) (hd1 : d ≤ ly r) : fy (sy r + d) / 365 = r ∧ sy r + d < 146097 := by
  obtain ⟨k, rfl⟩ := Int.eq_ofNat_of_zero_le h0
  have h := fy_ends ⟨k, by omega⟩
  simp only at h
  have hs : 0 ≤ sy k := by unfold sy; omega
  have a := fy_mono (a := sy k) (b := sy k + d) hs (by omega)
  have b := fy_mono (a := sy k + d) (b := sy k + ly k) (by omega) (by omega)
  omega

/-- The formulas of date.Civil. -/
def cN (n : Int) : Int := n + 719468
def cE (n : Int) : Int := cN n / 146097
def cD (n : Int) : Int := cN n % 146097
def cY (n : Int) : Int := (cD n - cD n / 1460 + cD n / 36524 - cD n / 146096) / 365
def cR (n : Int) : Int := cD n - (cY n * 365 + cY n / 4 - cY n / 100)
def cM (n : Int) : Int := (5 * cR n + 2) / 153
def cF (n : Int) : Int := cR n - (153 * cM n + 2) / 5 + 1

/-- The parts of the formula, of a day that begins so: e: 400 years, r: year, p: month from March on, d: day. -/
theorem cParts (n e r d : Int) (p : Nat) (hp : p < 12) (he : 0 ≤ e) (h0 : 0 ≤ r) (h1 : r < 400) (hd0 : 0 ≤ d) (hd1 : (153 * (p : Int) + 2) / 5 + d ≤ ly r) (hd2 : (153 * (p : Int) + 2) / 5 + d < (153 * ((p : Int) + 1) + 2) / 5)
    (hn : n + 719468 = e * 146097 + (sy r + ((153 * (p : Int) + 2) / 5 + d))) : cE n = e ∧ cY n = r ∧ cM n = p ∧ cF n = d + 1 ∧ 0 ≤ cD n ∧ cD n < 146097 ∧ 0 ≤ cR n ∧ cR n ≤ 400 := by
  have hy := fy_year r ((153 * (p : Int) + 2) / 5 + d) h0 h1 (by omega) hd1
  have hs : 0 ≤ sy r := by unfold sy; omega
  have e1 : cE n = e := by unfold cE cN; omega
  have e2 : cD n = sy r + ((153 * (p : Int) + 2) / 5 + d) := by unfold cD cN; omega
  have e3 : cY n = r := by unfold cY; rw [e2]; exact hy.1
  have e4 : cR n = (153 * (p : Int) + 2) / 5 + d := by unfold cR; rw [e3, e2]; unfold sy; omega
  have e5 : cM n = p := by unfold cM; rw [e4]; omega
  have hl : ly r ≤ 365 := by unfold ly; split <;> omega
  refine ⟨e1, e3, e5, ?_, by rw [e2]; omega, by rw [e2]; omega, by rw [e4]; omega, by rw [e4]; omega⟩
  unfold cF
  rw [e5, e4]
  omega

set_option maxHeartbeats 2000000 in
theorem IsCivil.formula {n y r : Int} {m : Nat} (h : IsCivil n y m r) :
    cF n = r + 1 ∧ 0 ≤ cD n ∧ cD n < 146097 ∧ 0 ≤ cR n ∧ cR n ≤ 400 ∧ 0 ≤ cY n ∧ cY n < 400 ∧ ((2 ≤ m ∧ cM n = m - 2 ∧ cE n * 400 + cY n = y) ∨ (m < 2 ∧ cM n = m + 10 ∧ cE n * 400 + cY n + 1 = y)) := by
  obtain ⟨y0, m1, r0, r1, heq⟩ := h
  have hl := lpI_bd y
  rcases Nat.lt_or_ge m 2 with h2 | h2
  · -- January and February belong to the year before
    have hc := cParts n ((y - 1) / 400) ((y - 1) % 400) r (m + 10) (by omega) (by omega) (by omega) (by omega) r0
    have hly : ly ((y - 1) % 400) = 364 + lpI y := by
      unfold ly lpI lp
      have h3 : ((y - 1) % 400 + 1) % 4 = y % 4 := by omega
      have h4 : ((y - 1) % 400 + 1) % 100 = y % 100 := by omega
      have h5 : ((y - 1) % 400 == 399) = (y % 400 == 0) := by rw [Bool.eq_iff_iff]; simp; omega
      rw [h3, h4, h5]
      have h6 : (y % 4 == 0 && (!y % 100 == 0 || y % 400 == 0)) = (y % 400 == 0 || !y % 100 == 0 && y % 4 == 0) := lp_eq y
      rw [h6]
      split <;> rfl
    have : m = 0 ∨ m = 1 := by omega
    have hyd : n + 719468 = (y - 1) / 400 * 146097 + (sy ((y - 1) % 400) + (306 + cum y m + r)) := by
      rw [heq]; unfold yd sy; omega
    rcases this with rfl | rfl
    · simp only [md, cum] at r1 hyd
      obtain ⟨q1, q2, q3, q4, q5, q6, q7, q8⟩ := hc (by rw [hly]; omega) (by omega) (by rw [hyd]; omega)
      exact ⟨q4, q5, q6, q7, q8, by omega, by omega, .inr ⟨by omega, by rw [q3]; rfl, by omega⟩⟩
    · simp only [md, cum] at r1 hyd
      obtain ⟨q1, q2, q3, q4, q5, q6, q7, q8⟩ := hc (by rw [hly]; omega) (by omega) (by rw [hyd]; omega)
      exact ⟨q4, q5, q6, q7, q8, by omega, by omega, .inr ⟨by omega, by rw [q3]; rfl, by omega⟩⟩
  · have hc := cParts n (y / 400) (y % 400) r (m - 2) (by omega) (by omega) (by omega) (by omega) r0
    have hly : 364 ≤ ly (y % 400) := by unfold ly; split <;> omega
    have hyd : n + 719468 = y / 400 * 146097 + (sy (y % 400) + (cum y m - lpI y - 59 + r)) := by
      have h8 : yd y + lpI y = 365 * (y - 1970) + y / 4 - y / 100 + y / 400 - 477 := by
        have := yd_succ y; unfold yd at this ⊢; omega
      rw [heq]; unfold sy; omega
    have : m = 2 ∨ m = 3 ∨ m = 4 ∨ m = 5 ∨ m = 6 ∨ m = 7 ∨ m = 8 ∨ m = 9 ∨ m = 10 ∨ m = 11 := by omega
    rcases this with rfl | rfl | rfl | rfl | rfl | rfl | rfl | rfl | rfl | rfl <;>
    · simp only [md, cum] at r1 hyd
      obtain ⟨q1, q2, q3, q4, q5, q6, q7, q8⟩ := hc (by simp; omega) (by simp; omega) (by rw [hyd]; first | (simp; done) | (simp; omega))
      exact ⟨q4, q5, q6, q7, q8, by omega, by omega, .inl ⟨by omega, by rw [q3]; rfl, by omega⟩⟩

/-- The formula of date.Days, of a month from March on (m - 1 from 0 on is k). -/
theorem dFormula (y : Int) (k : Nat) (d : Int) (hk : k < 12) :
    (2 ≤ k → y * 365 + y / 4 - y / 100 + y / 400 + (153 * ((k : Int) - 2) + 2) / 5 + d - 1 - 719468 = yd y + cum y k + d - 1) ∧
    (k < 2 → (y - 1) * 365 + (y - 1) / 4 - (y - 1) / 100 + (y - 1) / 400 + (153 * ((k : Int) + 10) + 2) / 5 + d - 1 - 719468 = yd y + cum y k + d - 1) := by
  have h8 : yd y + lpI y = 365 * (y - 1970) + y / 4 - y / 100 + y / 400 - 477 := by
    have := yd_succ y; unfold yd at this ⊢; omega
  refine ⟨fun h2 => ?_, fun h2 => ?_⟩
  · have : k = 2 ∨ k = 3 ∨ k = 4 ∨ k = 5 ∨ k = 6 ∨ k = 7 ∨ k = 8 ∨ k = 9 ∨ k = 10 ∨ k = 11 := by omega
    rcases this with rfl | rfl | rfl | rfl | rfl | rfl | rfl | rfl | rfl | rfl <;> simp only [cum] <;> omega
  · have : k = 0 ∨ k = 1 := by omega
    rcases this with rfl | rfl <;> simp only [cum] <;> unfold yd <;> omega
theorem yd_bd {y : Int} (h0 : 1970 ≤ y) (h1 : y ≤ 9999) : 0 ≤ yd y ∧ yd y ≤ 2932532 := by
  have a := yd_mono h0
  have b := yd_mono h1
  have : yd 1970 = 0 := by decide
  have : yd 9999 = 2932532 := by decide
  omega
end Go.Larder

/- Dates, printed. No program in sight. -/
namespace Go.Larder
set_option linter.unusedVariables false
set_option linter.unusedSimpArgs false
def weekL : List UInt8 := [84, 104, 117, 70, 114, 105, 83, 97, 116, 83, 117, 110, 77, 111, 110, 84, 117, 101, 87, 101, 100]
def monL : List UInt8 := [74, 97, 110, 70, 101, 98, 77, 97, 114, 65, 112, 114, 77, 97, 121, 74, 117, 110, 74, 117, 108, 65, 117, 103, 83, 101, 112, 79, 99, 116, 78, 111, 118, 68, 101, 99]
def wkD (k : Nat) : List UInt8 := (weekL.drop (3 * k)).take 3
def moD (k : Nat) : List UInt8 := (monL.drop (3 * k)).take 3
def twoL (n : Int) : List UInt8 := if n < 10 then 48 :: Lib.decDigits n.toNat else Lib.decDigits n.toNat
/-- The date of n seconds: day (since 1970) d, month m (from 0), year y, day of the month r (from 0). -/
def dateL (n y : Int) (m : Nat) (r : Int) : List UInt8 :=
  wkD (n / 86400 % 7).toNat ++ [44, 32] ++ twoL (r + 1) ++ [32] ++ moD m ++ [32] ++ Lib.decDigits y.toNat ++ [32] ++ twoL (n % 86400 / 3600) ++ [58] ++ twoL (n % 86400 / 60 % 60) ++ [58] ++ twoL (n % 86400 % 60) ++ [32, 71, 77, 84]
theorem dec_two (n : Int) (h0 : 0 ≤ n) (h1 : n < 100) : (twoL n).length = 2 := by
  unfold twoL
  split
  · rw [Lib.decDigits_one (by omega)]; rfl
  · rw [Lib.decDigits_two (by omega) (by omega)]; rfl
theorem dec_four (n : Int) (h0 : 1000 ≤ n) (h1 : n ≤ 9999) : (Lib.decDigits n.toNat).length = 4 := by
  have e : Lib.decDigits n.toNat = Lib.decDigits (n.toNat / 100) ++ [UInt8.ofNat (48 + n.toNat / 10 % 10)] ++ [UInt8.ofNat (48 + n.toNat % 10)] := by
    conv => lhs; rw [Lib.decDigits, dif_neg (by omega), Lib.decDigits, dif_neg (by omega)]
    rw [Nat.div_div_eq_div_mul]
  rw [e, Lib.decDigits_two (by omega) (by omega)]
  rfl
theorem dec_lt (n : Int) (h0 : 0 ≤ n) (h1 : n < 10) : (Lib.decDigits n.toNat).length = 1 := by rw [Lib.decDigits_one (by omega)]; rfl
theorem dec_ge (n : Int) (h0 : 10 ≤ n) (h1 : n < 100) : (Lib.decDigits n.toNat).length = 2 := by rw [Lib.decDigits_two (by omega) (by omega)]; rfl
theorem wk_len (k : Nat) (h : k < 7) : (wkD k).length = 3 := by
  simp [wkD, weekL]; omega
theorem mo_len (k : Nat) (h : k < 12) : (moD k).length = 3 := by
  simp [moD, monL]; omega
end Go.Larder

/- Lower case: of bytes, of texts; a row of bytes that '[]byte(s)' laid. No program in sight. -/
namespace Go.Larder
open Go.RowKit
set_option linter.unusedVariables false
set_option linter.unusedSimpArgs false

def lowB (b : UInt8) : UInt8 := if 65 ≤ b.toNat ∧ b.toNat ≤ 90 then b + 32 else b
def lowL (l : List UInt8) : List UInt8 := l.map lowB
theorem lowL_len (l : List UInt8) : (lowL l).length = l.length := List.length_map _
theorem lowB_in {b : UInt8} (h1 : 65 ≤ b.toNat) (h2 : b.toNat ≤ 90) : (lowB b).toNat = b.toNat + 32 := by
  unfold lowB
  rw [if_pos ⟨h1, h2⟩, UInt8.toNat_add]
  simp; omega
theorem lowB_out {b : UInt8} (h : ¬ (65 ≤ b.toNat ∧ b.toNat ≤ 90)) : lowB b = b := if_neg h

theorem set_same {α : Type} {l : List α} {j : Nat} {x : α} (h : l[j]? = some x) : l.set j x = l := by
  obtain ⟨h1, h2⟩ := List.getElem?_eq_some_iff.1 h
  subst h2
  exact List.set_getElem_self h1

/-- A row of bytes in new memory that may be read and written. -/
def RowB (w : World) (g : Nat) (l : List UInt8) : Prop := g < w.heap.size ∧ ∀ j b, l[j]? = some b → w.cell? ⟨g, j, none⟩ = some (.int .u8 b.toNat) ∧ w.frozen? ⟨g, j, none⟩ = false

theorem RowB.new (w : World) (l : List UInt8) (c : Nat) (e : TypeId) :
    RowB (w.drew.alloc (.cells (bytesRow ⟨l.toArray⟩ c) e ((bytesRow ⟨l.toArray⟩ c).size, (bytesRow ⟨l.toArray⟩ c).size + 1))) w.heap.size l := by
  have hh : (w.drew.alloc (.cells (bytesRow ⟨l.toArray⟩ c) e ((bytesRow ⟨l.toArray⟩ c).size, (bytesRow ⟨l.toArray⟩ c).size + 1))).heap[w.heap.size]? = some (.cells (bytesRow ⟨l.toArray⟩ c) e ((bytesRow ⟨l.toArray⟩ c).size, (bytesRow ⟨l.toArray⟩ c).size + 1)) := by
    show (w.heap.push _)[w.heap.size]? = _
    simp
  refine ⟨by show w.heap.size < (w.heap.push _).size; simp, fun j b hb => ?_⟩
  have hj : j < l.length := (List.getElem?_eq_some_iff.1 hb).1
  have hlen : l.length ≤ (bytesRow ⟨l.toArray⟩ c).size := by unfold bytesRow; simp
  constructor
  · unfold World.cell?
    rw [hh]
    have : (bytesRow ⟨l.toArray⟩ c)[j]? = some (.int .u8 b.toNat) := by
      unfold bytesRow
      rw [Array.getElem?_append_left (by simpa using hj)]
      simp [hb]
    simpa using this
  · unfold World.frozen?
    rw [hh]
    simp; omega

theorem RowB.read {w : World} {g : Nat} {l : List UInt8} (h : RowB w g l) : ReadL encB w (g + 1) (some ⟨g, 0, none⟩) l := fun _ =>
  ⟨g, 0, rfl, by omega, fun k a ha j u hu => by
    cases j with
    | zero =>
      have hu' : Value.int .u8 a.toNat = u := by simpa [encB] using hu
      rw [← hu']
      simpa [encB] using (h.2 k a ha).1
    | succ j => simp [encB] at hu⟩

theorem RowB.set {w : World} {g : Nat} {l : List UInt8} (h : RowB w g l) (j : Nat) (x : UInt8) : RowB (w.setCell ⟨g, j, none⟩ (.int .u8 x.toNat)) g (l.set j x) := by
  refine ⟨by simpa using h.1, fun k b hb => ?_⟩
  rw [World.frozen?_setCell]
  rw [List.getElem?_set] at hb
  split at hb
  · rename_i hjk
    subst hjk
    split at hb
    · rename_i hlt
      injection hb with hb
      subst hb
      have h0 := h.2 j _ (List.getElem?_eq_getElem hlt)
      exact ⟨World.cell?_setCell_same _ _ _ h0.1, h0.2⟩
    · cases hb
  · rename_i hjk
    have h0 := h.2 k b hb
    exact ⟨by rw [World.cell?_setCell_other _ _ _ _ (by simp only [ne_eq, Addr.mk.injEq, and_true, true_and]; exact hjk)]; exact h0.1, h0.2⟩
end Go.Larder

/- Token bytes, tokens. No program in sight. -/
namespace Go.Larder
open Go.RowKit
set_option linter.unusedVariables false
set_option linter.unusedSimpArgs false

def signsL : List UInt8 := [33, 35, 36, 37, 38, 39, 42, 43, 45, 46, 94, 95, 96, 124, 126]
def tokTab : List UInt8 := [97, 98, 99, 100, 101, 102, 103, 104, 105, 106, 107, 108, 109, 110, 111, 112, 113, 114, 115, 116, 117, 118, 119, 120, 121, 122, 65, 66, 67, 68, 69, 70, 71, 72, 73, 74, 75, 76, 77, 78, 79, 80, 81, 82, 83, 84, 85, 86, 87, 88, 89, 90, 48, 49, 50, 51, 52, 53, 54, 55, 56, 57, 33, 35, 36, 37, 38, 39, 42, 43, 45, 46, 94, 95, 96, 124, 126]
def tensTab : List UInt8 := [48, 49, 50, 51, 52, 53, 54, 55, 56, 57]
def inTab (t : List UInt8) (c : UInt8) : Bool := decide (0 ≤ Lib.indexByte t c)
def tokB (c : UInt8) : Bool := inTab tokTab c
def isTok (l : List UInt8) : Bool := !l.isEmpty && l.all tokB

theorem tokB_nat : ∀ n : Fin 256, tokB (UInt8.ofNat n.val) = (decide (97 ≤ n.val ∧ n.val ≤ 122) || decide (65 ≤ n.val ∧ n.val ≤ 90) || decide (48 ≤ n.val ∧ n.val ≤ 57) || inTab signsL (UInt8.ofNat n.val)) := by decide +kernel
theorem tokB_eq (c : UInt8) : tokB c = (decide (97 ≤ c.toNat ∧ c.toNat ≤ 122) || decide (65 ≤ c.toNat ∧ c.toNat ≤ 90) || decide (48 ≤ c.toNat ∧ c.toNat ≤ 57) || inTab signsL c) := by
  have := tokB_nat ⟨c.toNat, c.toNat_lt⟩
  simpa using this
theorem tens_nat : ∀ n : Fin 256, inTab tensTab (UInt8.ofNat n.val) = decide (48 ≤ n.val ∧ n.val ≤ 57) := by decide +kernel
theorem tens_eq (c : UInt8) : inTab tensTab c = decide (48 ≤ c.toNat ∧ c.toNat ≤ 57) := by
  have := tens_nat ⟨c.toNat, c.toNat_lt⟩
  simpa using this
theorem all_step {p : UInt8 → Bool} {l : List UInt8} {k : Nat} {x : UInt8} (h : l[k]? = some x) (hp : (l.take k).all p = true) (hx : p x = true) : (l.take (k + 1)).all p = true := by
  rw [List.take_add_one, h]; simpa [hx] using hp
theorem all_bad {p : UInt8 → Bool} {l : List UInt8} {k : Nat} {x : UInt8} (h : l[k]? = some x) (hx : p x = false) : l.all p = false := by
  rw [List.all_eq_false]
  exact ⟨x, List.mem_of_getElem? h, by simp [hx]⟩
end Go.Larder

/- Digits read as a number. No program in sight. -/
namespace Go.Larder
set_option linter.unusedVariables false
set_option linter.unusedSimpArgs false
/-- the number of a text of digits, or -1 -/
def nmGo (n : Int) : List UInt8 → Int
  | [] => n
  | c :: l => if inTab tensTab c = true then nmGo (10 * n + (c.toNat - 48)) l else -1
def nm (l : List UInt8) : Int := nmGo 0 l
theorem nmGo_yes {n : Int} {c : UInt8} {l : List UInt8} (h : inTab tensTab c = true) : nmGo n (c :: l) = nmGo (10 * n + (c.toNat - 48)) l := by rw [nmGo, if_pos h]
theorem nmGo_no {n : Int} {c : UInt8} {l : List UInt8} (h : inTab tensTab c = false) : nmGo n (c :: l) = -1 := by rw [nmGo, if_neg (by simp [h])]
/-- the reference's count -/
def cnt (s : List UInt8) (most : Int) : Int := if s.isEmpty || decide (18 < s.length) || (decide (1 < s.length) && s.head? == some 48) then -1 else if most < nm s then -1 else nm s
theorem digB' (x : UInt8) (h : inTab tensTab x = true) : 48 ≤ x.toNat ∧ x.toNat ≤ 57 := by rw [tens_eq] at h; exact of_decide_eq_true h
theorem digN' (x : UInt8) (h : inTab tensTab x = false) : ¬ (48 ≤ x.toNat ∧ x.toNat ≤ 57) := by rw [tens_eq] at h; exact of_decide_eq_false h
theorem pow10_le {k : Nat} (h : k ≤ 18) : (10 ^ k : Nat) ≤ 1000000000000000000 := Nat.pow_le_pow_right (by omega) h
theorem nmGo_bd : ∀ (l : List UInt8) (n : Int) (j : Nat), 0 ≤ n → n + 1 ≤ (10 ^ j : Nat) → -1 ≤ nmGo n l ∧ nmGo n l + 1 ≤ (10 ^ (j + l.length) : Nat)
  | [], n, j, h0, h1 => ⟨by simp only [nmGo]; omega, by simp only [nmGo]; simpa using h1⟩
  | c :: l, n, j, h0, h1 => by
    cases hc : inTab tensTab c
    · rw [nmGo_no hc]; have : 0 < (10 ^ (j + (c :: l).length) : Nat) := Nat.pow_pos (by omega); exact ⟨by omega, by omega⟩
    · obtain ⟨ha, hb⟩ := digB' c hc
      rw [nmGo_yes hc]
      have := nmGo_bd l (10 * n + (c.toNat - 48)) (j + 1) (by omega) (by rw [Nat.pow_succ]; omega)
      rw [List.length_cons, show j + (l.length + 1) = j + 1 + l.length from by omega]
      exact this
theorem nm_bd (l : List UInt8) (k : Nat) (h : l.length ≤ k) : -1 ≤ nm l ∧ nm l + 1 ≤ (10 ^ k : Nat) := by
  have := nmGo_bd l 0 0 (by omega) (by omega)
  rw [Nat.zero_add] at this
  have h2 : (10 ^ l.length : Nat) ≤ 10 ^ k := Nat.pow_le_pow_right (by omega) h
  exact ⟨this.1, by show nmGo 0 l + 1 ≤ _; omega⟩
theorem nm_all : ∀ (l : List UInt8) (n : Int), 0 ≤ n → (l.all (inTab tensTab) = true ↔ 0 ≤ nmGo n l)
  | [], n, h => by simp [nmGo, h]
  | c :: l, n, h => by
    cases hc : inTab tensTab c
    · rw [nmGo_no hc]; simp [hc]
    · obtain ⟨ha, hb⟩ := digB' c hc
      rw [nmGo_yes hc]
      have := nm_all l (10 * n + (c.toNat - 48)) (by omega)
      simp only [List.all_cons, hc, Bool.true_and]
      exact this
end Go.Larder

/- Dates, read. No program in sight. -/
namespace Go.Larder
set_option linter.unusedSimpArgs false
set_option linter.unusedVariables false
theorem civil_unique {n y y' r r' : Int} {m m' : Nat} (h : IsCivil n y m r) (h' : IsCivil n y' m' r') : y = y' ∧ m = m' ∧ r = r' := by
  obtain ⟨a1, _, _, _, _, _, _, a8⟩ := h.formula
  obtain ⟨b1, _, _, _, _, _, _, b8⟩ := h'.formula
  have := h.m1
  have := h'.m1
  refine ⟨?_, ?_, by omega⟩ <;> rcases a8 with a8 | a8 <;> rcases b8 with b8 | b8 <;> omega
/-- The text is the date of n. -/
def isDate (n : Int) (l : List UInt8) : Prop := ∃ (y : Int) (m : Nat) (r : Int), IsCivil (n / 86400) y m r ∧ 0 ≤ n ∧ n ≤ 253402300799 ∧ dateL n y m r = l
theorem isDate_at {n y r : Int} {m : Nat} {l : List UInt8} (h : IsCivil (n / 86400) y m r) (h0 : 0 ≤ n) (h1 : n ≤ 253402300799) : isDate n l ↔ dateL n y m r = l := by
  constructor
  · rintro ⟨y', m', r', h', _, _, e⟩
    obtain ⟨rfl, rfl, rfl⟩ := civil_unique h h'
    exact e
  · intro e
    exact ⟨y, m, r, h, h0, h1, e⟩
def seg (l : List UInt8) (a b : Nat) : List UInt8 := (l.drop a).take (b - a)
theorem seg_len {l : List UInt8} {a b : Nat} (h : b ≤ l.length) : (seg l a b).length = b - a := by unfold seg; rw [List.length_take, List.length_drop]; omega
def mon2L : List UInt8 := [74, 97, 110, 32, 70, 101, 98, 32, 77, 97, 114, 32, 65, 112, 114, 32, 77, 97, 121, 32, 74, 117, 110, 32, 74, 117, 108, 32, 65, 117, 103, 32, 83, 101, 112, 32, 79, 99, 116, 32, 78, 111, 118, 32, 68, 101, 99]
theorem mon_at : ∀ m : Fin 12, Lib.index monL (moD m.val) = ((3 * m.val : Nat) : Int) ∧ Lib.index mon2L (moD m.val) = ((4 * m.val : Nat) : Int) := by decide +kernel
/-- 'index' of a text in another one: none, or a place. -/
theorem index_cases (s sub : List UInt8) : Lib.index s sub = -1 ∨ ∃ j : Nat, Lib.index s sub = j ∧ j + sub.length ≤ s.length := by
  rcases Lib.index_spec s sub with h | ⟨i, h, _⟩
  · exact .inl h.1
  · refine .inr ⟨i, h, ?_⟩
    have := Lib.index_room s sub (by omega)
    omega
-- digits of numbers below 100, of years
theorem two_is (n : Int) (h0 : 0 ≤ n) (h1 : n < 100) : twoL n = [UInt8.ofNat (48 + n.toNat / 10), UInt8.ofNat (48 + n.toNat % 10)] := by
  unfold twoL
  split
  · rw [Lib.decDigits_one (by omega), show n.toNat / 10 = 0 from by omega, show n.toNat % 10 = n.toNat from by omega]; rfl
  · rw [Lib.decDigits_two (by omega) (by omega)]
theorem four_is (n : Int) (h0 : 1000 ≤ n) (h1 : n ≤ 9999) : Lib.decDigits n.toNat = [UInt8.ofNat (48 + n.toNat / 1000), UInt8.ofNat (48 + n.toNat / 100 % 10), UInt8.ofNat (48 + n.toNat / 10 % 10), UInt8.ofNat (48 + n.toNat % 10)] := by
  have e : Lib.decDigits n.toNat = Lib.decDigits (n.toNat / 100) ++ [UInt8.ofNat (48 + n.toNat / 10 % 10)] ++ [UInt8.ofNat (48 + n.toNat % 10)] := by
    conv => lhs; rw [Lib.decDigits, dif_neg (by omega), Lib.decDigits, dif_neg (by omega)]
    rw [Nat.div_div_eq_div_mul]
  rw [e, Lib.decDigits_two (by omega) (by omega), Nat.div_div_eq_div_mul]
  rfl
theorem dig_in (k : Nat) (h : k < 10) : inTab tensTab (UInt8.ofNat (48 + k)) = true ∧ ((UInt8.ofNat (48 + k)).toNat : Int) - 48 = k := by
  have e : (UInt8.ofNat (48 + k)).toNat = 48 + k := by rw [UInt8.toNat_ofNat']; omega
  exact ⟨by rw [tens_eq, e]; simp; omega, by rw [e]; omega⟩
theorem nmGo_dig (n : Int) (k : Nat) (h : k < 10) (l : List UInt8) : nmGo n (UInt8.ofNat (48 + k) :: l) = nmGo (10 * n + k) l := by
  rw [nmGo_yes (dig_in k h).1, (dig_in k h).2]
theorem nm_two (n : Int) (h0 : 0 ≤ n) (h1 : n < 100) : nm (twoL n) = n := by
  rw [two_is n h0 h1]
  unfold nm
  rw [nmGo_dig _ _ (by omega), nmGo_dig _ _ (by omega)]
  unfold nmGo
  omega
theorem nm_four (n : Int) (h0 : 1000 ≤ n) (h1 : n ≤ 9999) : nm (Lib.decDigits n.toNat) = n := by
  rw [four_is n h0 h1]
  unfold nm
  rw [nmGo_dig _ _ (by omega), nmGo_dig _ _ (by omega), nmGo_dig _ _ (by omega), nmGo_dig _ _ (by omega)]
  unfold nmGo
  omega
theorem len3 {l : List UInt8} (h : l.length = 3) : ∃ a b c, l = [a, b, c] := by
  match l, h with
  | [a, b, c], _ => exact ⟨a, b, c, rfl⟩
/-- The parts of a date's text. -/
theorem date_parts {n : Int} {l : List UInt8} (h : isDate n l) : ∃ (y : Int) (m : Nat) (r : Int), IsCivil (n / 86400) y m r ∧ 0 ≤ n ∧ n ≤ 253402300799 ∧ y ≤ 9999 ∧ l.length = 29 ∧
    seg l 8 11 = moD m ∧ seg l 12 16 = Lib.decDigits y.toNat ∧ seg l 5 7 = twoL (r + 1) ∧ seg l 17 19 = twoL (n % 86400 / 3600) ∧ seg l 20 22 = twoL (n % 86400 / 60 % 60) ∧ seg l 23 25 = twoL (n % 86400 % 60) := by
  obtain ⟨y, m, r, h, h0, h1, rfl⟩ := h
  have hy1 := h.y1 (by omega)
  have hm1 := h.m1
  have hr : r < 31 := by have := h.r1; have := md_bd y m; omega
  have hr0 := h.r0
  have hy0 := h.y0
  refine ⟨y, m, r, h, h0, h1, hy1, ?_⟩
  unfold dateL
  obtain ⟨a1, a2, a3, ea⟩ := len3 (wk_len (n / 86400 % 7).toNat (by omega))
  obtain ⟨b1, b2, b3, eb⟩ := len3 (mo_len m hm1)
  obtain ⟨c1, c2, c3, c4, ec⟩ : ∃ a b c d, Lib.decDigits y.toNat = [a, b, c, d] := ⟨_, _, _, _, four_is y (by omega) hy1⟩
  obtain ⟨d1, d2, ed⟩ : ∃ a b, twoL (r + 1) = [a, b] := ⟨_, _, two_is (r + 1) (by omega) (by omega)⟩
  obtain ⟨f1, f2, ef⟩ : ∃ a b, twoL (n % 86400 / 3600) = [a, b] := ⟨_, _, two_is _ (by omega) (by omega)⟩
  obtain ⟨g1, g2, eg⟩ : ∃ a b, twoL (n % 86400 / 60 % 60) = [a, b] := ⟨_, _, two_is _ (by omega) (by omega)⟩
  obtain ⟨i1, i2, eh⟩ : ∃ a b, twoL (n % 86400 % 60) = [a, b] := ⟨_, _, two_is _ (by omega) (by omega)⟩
  generalize wkD (n / 86400 % 7).toNat = W1 at *
  generalize moD m = W2 at *
  generalize Lib.decDigits y.toNat = W3 at *
  generalize twoL (r + 1) = W4 at *
  generalize twoL (n % 86400 / 3600) = W5 at *
  generalize twoL (n % 86400 / 60 % 60) = W6 at *
  generalize twoL (n % 86400 % 60) = W7 at *
  subst ea eb ec ed ef eg eh
  refine ⟨?_, ?_, ?_, ?_, ?_, ?_, ?_⟩ <;> simp [seg]
/-- date.Days answers a day. -/
def daysIn (y m d : Int) : Bool := decide (1970 ≤ y) && decide (y ≤ 9999) && decide (1 ≤ m) && decide (m ≤ 12) && decide (1 ≤ d) && decide (d ≤ md y (m - 1).toNat)
def dayN (y d : Int) (k : Nat) : Int := yd y + cum y k + d - 1
theorem dayN_bd {y d : Int} {k : Nat} (y0 : 1970 ≤ y) (y1 : y ≤ 9999) (hk : k < 12) (d0 : 1 ≤ d) (d1 : d ≤ md y k) : 0 ≤ dayN y d k ∧ dayN y d k ≤ 2932896 := by
  have a := yd_bd y0 y1
  have b := cum_bd y k
  have c := cum_top y k hk
  have hyl := lpI_bd y
  unfold dayN
  refine ⟨by omega, ?_⟩
  rcases Int.lt_or_le y 9999 with h | h
  · have := yd_step (a := y) (b := 9999) h
    have : yd 9999 = 2932532 := by decide
    omega
  · obtain rfl : y = 9999 := by omega
    have : lpI 9999 = 0 := by decide
    omega
/-- date.Parse: whether it reads a number at all, and which. -/
def pN (l : List UInt8) (k : Nat) : Int := dayN (nm (seg l 12 16)) (nm (seg l 5 7)) k * 86400 + nm (seg l 17 19) * 3600 + nm (seg l 20 22) * 60 + nm (seg l 23 25)
/-- (what is read out of a text of 29 bytes) -/
structure PGood (l : List UInt8) (k : Nat) : Prop where
  len : l.length = 29
  k12 : k < 12
  mon : Lib.index monL (seg l 8 11) = ((3 * k : Nat) : Int)
  din : daysIn (nm (seg l 12 16)) ((k : Int) + 1) (nm (seg l 5 7)) = true
  hh : 0 ≤ nm (seg l 17 19)
  mm : 0 ≤ nm (seg l 20 22)
  ss : 0 ≤ nm (seg l 23 25)
theorem daysIn_iff {y d : Int} {k : Nat} (hk : k < 12) : daysIn y ((k : Int) + 1) d = true ↔ (1970 ≤ y ∧ y ≤ 9999 ∧ 1 ≤ d ∧ d ≤ md y k) := by
  unfold daysIn
  rw [show ((k : Int) + 1 - 1).toNat = k from by omega]
  simp
  omega
theorem isDate_good {n : Int} {l : List UInt8} (h : isDate n l) : ∃ k, PGood l k ∧ pN l k = n := by
  obtain ⟨y, m, r, h, h0, h1, hy1, hl, e1, e2, e3, e4, e5, e6⟩ := date_parts h
  have hm1 := h.m1
  have hr : r < 31 := by have := h.r1; have := md_bd y m; omega
  have hr0 := h.r0
  have hy0 := h.y0
  have hr1 := h.r1
  have n1 := nm_four y (by omega) hy1
  have n2 := nm_two (r + 1) (by omega) (by omega)
  have n3 := nm_two (n % 86400 / 3600) (by omega) (by omega)
  have n4 := nm_two (n % 86400 / 60 % 60) (by omega) (by omega)
  have n5 := nm_two (n % 86400 % 60) (by omega) (by omega)
  refine ⟨m, ⟨hl, hm1, by rw [e1]; exact (mon_at ⟨m, hm1⟩).1, by rw [e2, e3, n1, n2, daysIn_iff hm1]; omega, by rw [e4, n3]; omega, by rw [e5, n4]; omega, by rw [e6, n5]; omega⟩, ?_⟩
  unfold pN dayN
  rw [e2, e3, e4, e5, e6, n1, n2, n3, n4, n5]
  have := h.eq
  omega
end Go.Larder

/- A text split at a byte. No program in sight. -/
namespace Go.Larder
set_option linter.unusedVariables false
set_option linter.unusedSimpArgs false

def spl (c : UInt8) : List UInt8 → List (List UInt8)
  | [] => [[]]
  | b :: l => if b == c then [] :: spl c l else match spl c l with
    | [] => [[b]]
    | p :: ps => (b :: p) :: ps
def jn (c : UInt8) : List (List UInt8) → List UInt8
  | [] => []
  | [p] => p
  | p :: q :: r => p ++ c :: jn c (q :: r)
theorem spl_some (c : UInt8) : ∀ s, ∃ p ps, spl c s = p :: ps
  | [] => ⟨_, _, rfl⟩
  | b :: l => by
    obtain ⟨p, ps, h⟩ := spl_some c l
    unfold spl
    rw [h]
    cases hb : (b == c)
    · exact ⟨b :: p, ps, by simp⟩
    · exact ⟨[], p :: ps, by simp⟩
theorem index_hitc (c : UInt8) (l : List UInt8) : Lib.index (c :: l) [c] = 0 := by
  unfold Lib.index
  simp [List.isPrefixOf]
theorem index_skipc (b c : UInt8) (l : List UInt8) (h : b ≠ c) : Lib.index (b :: l) [c] = if Lib.index l [c] == -1 then -1 else Lib.index l [c] + 1 := by
  conv => lhs; unfold Lib.index
  have : ([c] : List UInt8).isPrefixOf (b :: l) = false := by
    simp [List.isPrefixOf]
    exact fun e => h e.symm
  rw [this]
  rfl
theorem splitK_spl (c : UInt8) : ∀ s : List UInt8, Lib.splitK [c] 0 (s.count c) s = spl c s
  | [] => rfl
  | b :: l => by
    have ih := splitK_spl c l
    cases hb : (b == c)
    · have hbc : b ≠ c := by simpa using hb
      have hcnt : (b :: l).count c = l.count c := List.count_cons_of_ne hbc
      obtain ⟨p, ps, hs⟩ := spl_some c l
      have hspl : spl c (b :: l) = (b :: p) :: ps := by unfold spl; rw [hb, hs]; rfl
      rw [hcnt, hspl]
      rw [hs] at ih
      cases hk : l.count c with
      | zero =>
        rw [hk] at ih
        simp only [Lib.splitK] at ih ⊢
        injection ih with h1 h2
        rw [h1, h2]
      | succ k =>
        rw [hk] at ih
        unfold Lib.splitK at ih ⊢
        rw [index_skipc b c l hbc]
        cases hi : (Lib.index l [c] == -1)
        · rw [hi] at ih
          have hge := Lib.index_ge l [c]
          have hne : Lib.index l [c] ≠ -1 := by simpa using hi
          have e1 : ((Lib.index l [c] + 1 == -1)) = false := by simp; omega
          have e2 : (Lib.index l [c] + 1).toNat = (Lib.index l [c]).toNat + 1 := by omega
          simp only [Bool.false_eq_true, if_false, e1, e2] at ih ⊢
          injection ih with h1 h2
          rw [← h1, ← h2]
          simp [Nat.add_right_comm]
        · rw [hi] at ih
          simp only [if_true] at ih
          injection ih with h1 h2
          subst h1 h2
          simp
    · have hbc : b = c := by simpa using hb
      subst hbc
      have hcnt : (b :: l).count b = l.count b + 1 := List.count_cons_self
      rw [hcnt]
      unfold Lib.splitK
      rw [index_hitc]
      simp [spl, ih]
theorem split_spl (c : UInt8) (s : List UInt8) : Lib.split s [c] = spl c s := by
  unfold Lib.split
  rw [Lib.count_one]
  exact splitK_spl c s
theorem jn_cons (c b : UInt8) (p : List UInt8) (ps : List (List UInt8)) : jn c ((b :: p) :: ps) = b :: jn c (p :: ps) := by
  cases ps <;> simp [jn]
theorem jn_spl (c : UInt8) : ∀ s, jn c (spl c s) = s
  | [] => rfl
  | b :: l => by
    have ih := jn_spl c l
    obtain ⟨p, ps, hs⟩ := spl_some c l
    rw [hs] at ih
    unfold spl
    rw [hs]
    cases hb : (b == c)
    · simp only [Bool.false_eq_true, if_false]
      rw [jn_cons, ih]
    · have hbc : b = c := by simpa using hb
      subst hbc
      simp [jn, ih]
theorem spl_free {c : UInt8} : ∀ {p : List UInt8}, (∀ x ∈ p, x ≠ c) → spl c p = [p]
  | [], _ => rfl
  | b :: p, h => by
    unfold spl
    have hb : (b == c) = false := by simpa using h b (by simp)
    rw [spl_free (fun x hx => h x (by simp [hx])), hb]
    rfl
theorem spl_app {c : UInt8} (s : List UInt8) : ∀ {p : List UInt8}, (∀ x ∈ p, x ≠ c) → spl c (p ++ c :: s) = p :: spl c s
  | [], _ => by simp [spl]
  | b :: p, h => by
    have hb : (b == c) = false := by simpa using h b (by simp)
    have ih := spl_app (c := c) s (p := p) (fun x hx => h x (by simp [hx]))
    rw [List.cons_append]
    conv => lhs; unfold spl
    rw [ih, hb]
    rfl
theorem spl_mem {c : UInt8} : ∀ {s p : List UInt8}, p ∈ spl c s → ∀ x ∈ p, x ≠ c
  | [], p, h, x, hx => by simp [spl] at h; subst h; simp at hx
  | b :: l, p, h, x, hx => by
    obtain ⟨q, qs, hs⟩ := spl_some c l
    unfold spl at h
    rw [hs] at h
    cases hb : (b == c)
    · rw [hb] at h
      simp only [Bool.false_eq_true, if_false] at h
      rcases List.mem_cons.1 h with rfl | h
      · rcases List.mem_cons.1 hx with rfl | hx
        · simpa using hb
        · exact spl_mem (s := l) (by rw [hs]; simp) x hx
      · exact spl_mem (s := l) (by rw [hs]; simp [h]) x hx
    · rw [hb] at h
      simp only [if_true] at h
      rcases List.mem_cons.1 h with rfl | h
      · simp at hx
      · exact spl_mem (s := l) (by rw [hs]; exact h) x hx
theorem spl_jn {c : UInt8} : ∀ {ps : List (List UInt8)}, ps ≠ [] → (∀ p ∈ ps, ∀ x ∈ p, x ≠ c) → spl c (jn c ps) = ps
  | [], h, _ => absurd rfl h
  | [p], _, h => spl_free (h p (by simp))
  | p :: q :: r, _, h => by
    unfold jn
    rw [spl_app _ (h p (by simp)), spl_jn (by simp) (fun y hy => h y (List.mem_cons_of_mem _ hy))]
theorem spl_len (c : UInt8) : ∀ s : List UInt8, (spl c s).length = s.count c + 1
  | [] => rfl
  | b :: l => by
    obtain ⟨p, ps, hs⟩ := spl_some c l
    have ih := spl_len c l
    rw [hs] at ih
    unfold spl
    rw [hs]
    cases hb : (b == c)
    · have hbc : b ≠ c := by simpa using hb
      rw [List.count_cons_of_ne hbc]
      simpa using ih
    · have hbc : b = c := by simpa using hb
      subst hbc
      rw [List.count_cons_self]
      simpa using ih
theorem jn_len (c : UInt8) : ∀ (ps : List (List UInt8)), ∀ p ∈ ps, p.length ≤ (jn c ps).length
  | [], p, h => by simp at h
  | [q], p, h => by simp at h; subst h; simp [jn]
  | q :: r :: ps, p, h => by
    have ih := jn_len c (r :: ps)
    unfold jn
    rcases List.mem_cons.1 h with rfl | h
    · simp
    · have := ih p h
      simp at this ⊢
      omega
theorem spl_mem_len {c : UInt8} {s p : List UInt8} (h : p ∈ spl c s) : p.length ≤ s.length := by
  have := jn_len c (spl c s) p h
  rwa [jn_spl] at this
end Go.Larder

/- Dates, read: the reference's way. No program in sight. -/
namespace Go.Larder
set_option linter.unusedSimpArgs false
set_option linter.unusedVariables false
def z48 (c : UInt8) : Bool := c == 48
/-- a number out of a text of digits, noughts ahead taken off; -1: nothing is left -/
def av (l : List UInt8) : Int := cnt (l.dropWhile z48) 9999
theorem nmGo_mono : ∀ (l : List UInt8) (n : Int), 1 ≤ n → l.all (inTab tensTab) = true → 1 ≤ nmGo n l
  | [], n, h, _ => h
  | c :: l, n, h, ha => by
    rw [List.all_cons, Bool.and_eq_true] at ha
    obtain ⟨h1, h2⟩ := digB' c ha.1
    rw [nmGo_yes ha.1]
    exact nmGo_mono l _ (by omega) ha.2
theorem av_eq : ∀ (l : List UInt8), l.length ≤ 4 → l.all (inTab tensTab) = true → av l = if nm l = 0 then -1 else nm l
  | [], _, _ => by simp [av, cnt, nm, nmGo]
  | c :: l, hl, ha => by
    have ha2 := ha
    rw [List.all_cons, Bool.and_eq_true] at ha2
    rw [List.length_cons] at hl
    by_cases hc : c = 48
    · subst hc
      have e1 : av (48 :: l) = av l := by unfold av; rw [List.dropWhile_cons]; rfl
      have e2 : nm (48 :: l) = nm l := by unfold nm; rw [nmGo_yes (by decide)]; rfl
      rw [e1, e2]
      exact av_eq l (by omega) ha2.2
    · have e1 : av (c :: l) = cnt (c :: l) 9999 := by unfold av; rw [List.dropWhile_cons, show z48 c = false from by simp [z48, hc]]; simp
      obtain ⟨h1, h2⟩ := digB' c ha2.1
      have hc48 : c.toNat ≠ 48 := fun h => hc (UInt8.toNat_inj.1 (by rw [h]; rfl))
      have hge : 1 ≤ nm (c :: l) := by
        unfold nm; rw [nmGo_yes ha2.1]
        exact nmGo_mono l _ (by omega) ha2.2
      have hb := (nm_bd (c :: l) 4 (by simpa using hl)).2
      rw [show ((10 ^ 4 : Nat) : Int) = 10000 from rfl] at hb
      rw [e1, if_neg (by omega)]
      unfold cnt
      rw [if_neg (by simp [hc]; omega), if_neg (by omega)]
theorem av_bd {l : List UInt8} (h : l.length ≤ 4) : -1 ≤ av l ∧ av l ≤ 9999 := by
  have h2 : (l.dropWhile z48).length ≤ 4 := Nat.le_trans (List.dropWhile_sublist z48).length_le h
  have := nm_bd (l.dropWhile z48) 4 h2
  rw [show ((10 ^ 4 : Nat) : Int) = 10000 from rfl] at this
  unfold av cnt
  split
  · omega
  · split <;> omega
def segsR (l : List UInt8) : List (List UInt8) := [seg l 5 7, seg l 12 16, seg l 17 19, seg l 20 22, seg l 23 25]
structure RGood (l : List UInt8) (k : Nat) : Prop where
  len : l.length = 29
  k12 : k < 12
  mon : Lib.index mon2L (seg l 8 11) = ((4 * k : Nat) : Int)
  dig : ∀ s ∈ segsR l, s.all (inTab tensTab) = true
  din : daysIn (av (seg l 12 16)) ((k : Int) + 1) (max 0 (av (seg l 5 7))) = true
def rN (l : List UInt8) (k : Nat) : Int := dayN (av (seg l 12 16)) (max 0 (av (seg l 5 7))) k * 86400 + max 0 (av (seg l 17 19)) * 3600 + max 0 (av (seg l 20 22)) * 60 + max 0 (av (seg l 23 25))
theorem tens_two (n : Int) (h0 : 0 ≤ n) (h1 : n < 100) : (twoL n).all (inTab tensTab) = true := (nm_all _ 0 (by omega)).2 (by have := nm_two n h0 h1; unfold nm at this; omega)
theorem tens_four (n : Int) (h0 : 1000 ≤ n) (h1 : n ≤ 9999) : (Lib.decDigits n.toNat).all (inTab tensTab) = true := (nm_all _ 0 (by omega)).2 (by have := nm_four n h0 h1; unfold nm at this; omega)
theorem av_two (n : Int) (h0 : 0 ≤ n) (h1 : n < 100) : max 0 (av (twoL n)) = n := by
  rw [av_eq _ (by rw [dec_two n h0 h1]; omega) (tens_two n h0 h1), nm_two n h0 h1]
  split <;> omega
theorem av_four (n : Int) (h0 : 1000 ≤ n) (h1 : n ≤ 9999) : av (Lib.decDigits n.toNat) = n := by
  rw [av_eq _ (by rw [dec_four n h0 h1]; omega) (tens_four n h0 h1), nm_four n h0 h1]
  split <;> omega
theorem isDate_goodR {n : Int} {l : List UInt8} (h : isDate n l) : ∃ k, RGood l k ∧ rN l k = n := by
  obtain ⟨y, m, r, h, h0, h1, hy1, hl, e1, e2, e3, e4, e5, e6⟩ := date_parts h
  have hm1 := h.m1
  have hr : r < 31 := by have := h.r1; have := md_bd y m; omega
  have hr0 := h.r0
  have hy0 := h.y0
  have hr1 := h.r1
  have n1 := av_four y (by omega) hy1
  have n2 := av_two (r + 1) (by omega) (by omega)
  have n3 := av_two (n % 86400 / 3600) (by omega) (by omega)
  have n4 := av_two (n % 86400 / 60 % 60) (by omega) (by omega)
  have n5 := av_two (n % 86400 % 60) (by omega) (by omega)
  refine ⟨m, ⟨hl, hm1, by rw [e1]; exact (mon_at ⟨m, hm1⟩).2, ?_, by rw [e2, e3, n1, n2, daysIn_iff hm1]; omega⟩, ?_⟩
  · intro s hs
    unfold segsR at hs
    rw [e2, e3, e4, e5, e6] at hs
    simp only [List.mem_cons, List.not_mem_nil, or_false] at hs
    rcases hs with rfl | rfl | rfl | rfl | rfl
    · exact tens_two _ (by omega) (by omega)
    · exact tens_four _ (by omega) hy1
    · exact tens_two _ (by omega) (by omega)
    · exact tens_two _ (by omega) (by omega)
    · exact tens_two _ (by omega) (by omega)
  · unfold rN dayN
    rw [e2, e3, e4, e5, e6, n1, n2, n3, n4, n5]
    have := h.eq
    omega
end Go.Larder

/- Lists of fields: set, dropped. No program in sight. -/
namespace Go.Larder
set_option linter.unusedVariables false
set_option linter.unusedSimpArgs false
abbrev Fld := List UInt8 × List UInt8

def hits (nm : List UInt8) (f : Fld) : Bool := lowL f.1 == nm
/-- The place of the first of that name (-1: none), counted from k on. -/
def ixFrom (nm : List UInt8) : Nat → List Fld → Int
  | _, [] => -1
  | k, f :: l => if hits nm f then (k : Int) else ixFrom nm (k + 1) l
theorem ixFrom_ge (nm : List UInt8) : ∀ (l : List Fld) (k : Nat), ixFrom nm k l = -1 ∨ ∃ m : Nat, ixFrom nm k l = m ∧ k ≤ m ∧ m < k + l.length ∧ (l.take (m - k)).all (fun f => !hits nm f) = true ∧ (∃ f, l[m - k]? = some f ∧ hits nm f = true)
  | [], k => .inl rfl
  | f :: l, k => by
    unfold ixFrom
    by_cases h : hits nm f = true
    · rw [if_pos h]
      exact .inr ⟨k, rfl, by omega, by simp, by simp, f, by simp, h⟩
    · rw [if_neg h]
      rcases ixFrom_ge nm l (k + 1) with h1 | ⟨m, h1, h2, h3, h4, g, h5, h6⟩
      · exact .inl h1
      · refine .inr ⟨m, h1, by omega, by simp; omega, ?_, g, ?_, h6⟩
        · rw [show m - k = (m - (k + 1)) + 1 from by omega, List.take_succ_cons, List.all_cons, h4]
          simpa using h
        · rw [show m - k = (m - (k + 1)) + 1 from by omega, List.getElem?_cons_succ]
          exact h5
theorem ixFrom_none {nm : List UInt8} : ∀ {l : List Fld} {k : Nat}, ixFrom nm k l = -1 → l.all (fun f => !hits nm f) = true
  | [], _, _ => rfl
  | f :: l, k, h => by
    unfold ixFrom at h
    by_cases h1 : hits nm f = true
    · rw [if_pos h1] at h; omega
    · rw [if_neg h1] at h
      rw [List.all_cons, ixFrom_none h]
      simpa using h1

def dropL (nm : List UInt8) (l : List Fld) : List Fld := l.filter fun f => !hits nm f
theorem dropL_all {nm : List UInt8} {l : List Fld} (h : l.all (fun f => !hits nm f) = true) : dropL nm l = l := by
  unfold dropL
  exact List.filter_eq_self.2 (by simpa using h)

/-- The reference's way. -/
def setGo (nm name value : List UInt8) : List Fld → List Fld → Bool → List Fld
  | [], out, is => if is then out else out ++ [(name, value)]
  | f :: l, out, is => if hits nm f then (if is then setGo nm name value l out is else setGo nm name value l (out ++ [(name, value)]) true) else setGo nm name value l (out ++ [f]) is
def setR (name value : List UInt8) (l : List Fld) : List Fld := setGo (lowL name) name value l [] false
theorem setGo_true (nm name value : List UInt8) : ∀ (l out : List Fld), setGo nm name value l out true = out ++ dropL nm l
  | [], out => by simp [setGo, dropL]
  | f :: l, out => by
    unfold setGo
    by_cases h : hits nm f = true
    · rw [if_pos h, if_pos rfl, setGo_true nm name value l out]; simp [dropL, h]
    · rw [if_neg h, setGo_true nm name value l _]; simp [dropL, h]
theorem setGo_false (nm name value : List UInt8) : ∀ (l out : List Fld), l.all (fun f => !hits nm f) = true → setGo nm name value l out false = out ++ l ++ [(name, value)]
  | [], out, _ => by simp [setGo]
  | f :: l, out, h => by
    rw [List.all_cons, Bool.and_eq_true] at h
    unfold setGo
    rw [if_neg (by simpa using h.1), setGo_false nm name value l _ h.2]
    simp
theorem setGo_skip (nm name value : List UInt8) : ∀ (p l out : List Fld), p.all (fun f => !hits nm f) = true → setGo nm name value (p ++ l) out false = setGo nm name value l (out ++ p) false
  | [], l, out, _ => by simp
  | f :: p, l, out, h => by
    rw [List.all_cons, Bool.and_eq_true] at h
    rw [List.cons_append]
    conv => lhs; unfold setGo
    rw [if_neg (by simpa using h.1), setGo_skip nm name value p l _ h.2]
    simp
/-- The program's way. -/
theorem setR_none {name value : List UInt8} {l : List Fld} (h : ixFrom (lowL name) 0 l = -1) : setR name value l = l ++ [(name, value)] := by
  unfold setR
  rw [setGo_false _ _ _ l [] (ixFrom_none h)]
  simp
theorem setR_some {name value : List UInt8} {l : List Fld} {m : Nat} (h : ixFrom (lowL name) 0 l = m) : setR name value l = l.take m ++ [(name, value)] ++ dropL (lowL name) (l.drop (m + 1)) := by
  rcases ixFrom_ge (lowL name) l 0 with h1 | ⟨m', h1, h2, h3, h4, f, h5, h6⟩
  · omega
  · obtain rfl : m' = m := by omega
    have hm : m' < l.length := by omega
    have hsplit : l = l.take m' ++ (f :: l.drop (m' + 1)) := by
      have h7 : l[m']? = some f := by simpa using h5
      have h8 := List.drop_eq_getElem_cons hm
      rw [(List.getElem?_eq_some_iff.1 h7).2] at h8
      rw [← h8, List.take_append_drop]
    unfold setR
    conv => lhs; rw [hsplit]
    rw [setGo_skip _ _ _ _ _ _ (by simpa using h4)]
    conv => lhs; unfold setGo
    rw [if_pos h6, if_neg (by simp), setGo_true]
    simp
end Go.Larder

/- The values of a name, joined. No program in sight. -/
namespace Go.Larder
open Go.RowKit
set_option linter.unusedVariables false
set_option linter.unusedSimpArgs false
def valsL (nm : List UInt8) (l : List Fld) : List (List UInt8) := (l.filter (hits nm)).map (·.2)
def sepL : List UInt8 := [44, 32]
def getStep (out : List UInt8) (is : Bool) (v : List UInt8) : List UInt8 := if is then out ++ sepL ++ v else out ++ v
def getGo (nm : List UInt8) : List Fld → List UInt8 → Bool → List UInt8 × Bool
  | [], out, is => (out, is)
  | f :: l, out, is => if hits nm f then getGo nm l (getStep out is f.2) true else getGo nm l out is
theorem join_snoc (vs : List (List UInt8)) (x : List UInt8) : Lib.join (vs ++ [x]) sepL = getStep (Lib.join vs sepL) (!vs.isEmpty) x := by
  cases vs with
  | nil => simp [getStep, Lib.join_nil, Lib.join_one]
  | cons v vs => simp [getStep, Lib.join_cons, Lib.joinTail]
theorem getGo_eq (nm : List UInt8) : ∀ (l : List Fld) (vs : List (List UInt8)), getGo nm l (Lib.join vs sepL) (!vs.isEmpty) = (Lib.join (vs ++ valsL nm l) sepL, !(vs ++ valsL nm l).isEmpty)
  | [], vs => by simp [getGo, valsL]
  | f :: l, vs => by
    unfold getGo
    by_cases h : hits nm f = true
    · rw [if_pos h, ← join_snoc]
      have := getGo_eq nm l (vs ++ [f.2])
      rw [show (!(vs ++ [f.2]).isEmpty) = true from by simp] at this
      rw [this]
      simp [valsL, h]
    · rw [if_neg h, getGo_eq nm l vs]
      simp [valsL, h]
theorem getGo_all (nm : List UInt8) (l : List Fld) : getGo nm l [] false = (Lib.join (valsL nm l) sepL, !(valsL nm l).isEmpty) := by
  have := getGo_eq nm l []
  simpa [Lib.join_nil] using this
theorem join_len_le (vs : List (List UInt8)) : (Lib.join vs sepL).length ≤ (vs.map (fun v => v.length + 2)).sum := by
  induction vs with
  | nil => simp [Lib.join_nil]
  | cons v vs ih =>
    rw [Lib.join_length]
    have h2 : ∀ l : List (List UInt8), 2 * l.length + Lib.lens l = (l.map (fun v => v.length + 2)).sum := by
      intro l
      induction l with
      | nil => rfl
      | cons a l ih2 => simp [Lib.lens] at ih2 ⊢; omega
    have h3 := h2 vs
    simp [Lib.lens, sepL] at h3 ⊢
    omega
theorem vals_len_le (nm : List UInt8) : ∀ l : List Fld, ((valsL nm l).map (fun v => v.length + 2)).sum ≤ (l.map (fun f => f.1.length + f.2.length + 3)).sum
  | [] => by simp [valsL]
  | f :: l => by
    have ih := vals_len_le nm l
    unfold valsL at ih ⊢
    by_cases h : hits nm f = true
    · simp [h] at ih ⊢; omega
    · simp [h] at ih ⊢; omega
end Go.Larder

/- What the functions of package token compute, as Lean functions on lists of bytes. No program in sight. -/
namespace Go.Larder
set_option linter.unusedVariables false
set_option linter.unusedSimpArgs false

def isB (c : UInt8) : Bool := (c.toNat : Int) == 32 || (c.toNat : Int) == 9
def isPl (c : UInt8) : Bool := (decide (32 ≤ (c.toNat : Int)) && decide ((c.toNat : Int) ≤ 126)) || (c.toNat : Int) == 9

def trimR (l : List UInt8) : List UInt8 := (l.reverse.dropWhile isB).reverse
def trim (l : List UInt8) : List UInt8 := trimR (l.dropWhile isB)

theorem trimR_snoc (l : List UInt8) (c : UInt8) : trimR (l ++ [c]) = if isB c then trimR l else l ++ [c] := by
  unfold trimR
  rw [List.reverse_append, List.reverse_singleton, List.singleton_append, List.dropWhile_cons]
  split <;> simp

def isQ (c : UInt8) : Bool := (c.toNat : Int) == 34
def isBS (c : UInt8) : Bool := (c.toNat : Int) == 92

/-- token.Unquote's loop. -/
def unq : List UInt8 → List UInt8 → Option (List UInt8)
  | [], acc => some acc
  | [c], acc => if isQ c || isBS c then none else if isPl c then some (acc ++ [c]) else none
  | c :: d :: r, acc => if isBS c then (if isPl d then unq r (acc ++ [d]) else none) else if isQ c then none else if isPl c then unq (d :: r) (acc ++ [c]) else none

def unqEnd : Option (List UInt8) → List UInt8 × Int
  | none => ([], 3)
  | some b => if 1000 < b.length then ([], 2) else (b, 0)

/-- token.Unquote of a :: (m ++ [b]). -/
def unqMid (a : UInt8) (m : List UInt8) (b : UInt8) : List UInt8 × Int :=
  if isQ a && isQ b then unqEnd (unq m []) else ([], 3)

/-- R.Unquote's loop. -/
def unqR : List UInt8 → Bool → List UInt8 → Option (List UInt8)
  | [], c, acc => if c then none else some acc
  | x :: r, true, acc => unqR r false (acc ++ [x])
  | x :: r, false, acc => if isBS x then unqR r true acc else if isQ x then none else unqR r false (acc ++ [x])

def unqMidR (a : UInt8) (m : List UInt8) (b : UInt8) : List UInt8 × Int :=
  if isQ a && isQ b && (a :: (m ++ [b])).all isPl then unqEnd (unqR m false []) else ([], 3)

theorem unqR_of_unq (m : List UInt8) (acc : List UInt8) : unq m acc = if m.all isPl then unqR m false acc else none := by
  fun_induction unq m acc with
  | case1 acc => simp [unqR]
  | case2 c acc h =>
    simp only [Bool.or_eq_true] at h
    rcases h with h | h
    · have : isBS c = false := by simp [isQ, isBS] at h ⊢; omega
      simp [unqR, h, this]
    · simp [unqR, h]
  | case3 c acc h h2 => simp at h; simp [unqR, h, h2]
  | case4 c acc h h2 => simp [h2]
  | case5 c d r acc h h2 ih =>
    have : isPl c = true := by simp [isBS, isPl] at h ⊢; omega
    simp [unqR, h, h2, this, ih]
  | case6 c d r acc h h2 => simp [h2]
  | case7 c d r acc h h2 => simp [unqR, h, h2]
  | case8 c d r acc h h2 h3 ih =>
    simp only [List.all_cons, Bool.and_eq_true] at ih ⊢
    simp [unqR, h, h2, h3, ih]
  | case9 c d r acc h h2 h3 => simp [h3]

theorem unqMid_eq (a : UInt8) (m : List UInt8) (b : UInt8) : unqMid a m b = unqMidR a m b := by
  unfold unqMid unqMidR
  rw [unqR_of_unq]
  have hq : ∀ c, isQ c = true → isPl c = true := fun c h => by simp [isQ, isPl] at h ⊢; omega
  cases ha : isQ a <;> cases hb : isQ b <;> simp [ha, hb]
  simp only [hq a ha, hq b hb, true_and, and_true]
  split <;> rfl
end Go.Larder

/- How a text is cut at signs outside of quotes, by the program and by the reference, and that the two agree. No program in sight. -/
namespace Go.Larder
set_option linter.unusedVariables false
set_option linter.unusedSimpArgs false

/-! Trim, one blank at a time. -/
theorem trim_cons (b : UInt8) (l : List UInt8) (h : isB b = true) : trim (b :: l) = trim l := by
  unfold trim
  rw [List.dropWhile_cons, h]
  rfl
theorem trim_snoc (l : List UInt8) (b : UInt8) (h : isB b = true) : trim (l ++ [b]) = trim l := by
  unfold trim
  rw [List.dropWhile_append]
  split
  · rename_i he
    have : List.dropWhile isB l = [] := by simpa using he
    rw [this]
    simp [List.dropWhile_cons, h]
  · rw [trimR_snoc, h]; rfl
theorem trim_done (l : List UInt8) (h1 : ∀ b, l.head? = some b → isB b = false) (h2 : ∀ b, l.getLast? = some b → isB b = false) : trim l = l := by
  unfold trim
  have e : List.dropWhile isB l = l := by
    cases l with
    | nil => rfl
    | cons b l => rw [List.dropWhile_cons, h1 b rfl]; rfl
  rw [e]
  rcases nil_or_snoc l with rfl | ⟨m, b, rfl⟩
  · rfl
  · rw [trimR_snoc, h2 b (by simp)]; rfl

/-- token.cut. -/
def cutP (sg : UInt8) : List UInt8 → Bool → List UInt8 → List (List UInt8) → Option (List (List UInt8))
  | [], q, cur, acc => if q then none else some (acc ++ [trim cur])
  | [c], q, cur, acc =>
    if isQ c then cutP sg [] (!q) (cur ++ [c]) acc
    else if q && isBS c then none
    else if !q && (c.toNat : Int) == sg.toNat then cutP sg [] q [] (acc ++ [trim cur])
    else cutP sg [] q (cur ++ [c]) acc
  | c :: d :: r, q, cur, acc =>
    if isQ c then cutP sg (d :: r) (!q) (cur ++ [c]) acc
    else if q && isBS c then cutP sg r q (cur ++ [c, d]) acc
    else if !q && (c.toNat : Int) == sg.toNat then cutP sg (d :: r) q [] (acc ++ [trim cur])
    else cutP sg (d :: r) q (cur ++ [c]) acc

/-- R.parts, ahead of its last loop. -/
def partsR (sg : UInt8) : List UInt8 → Bool → Bool → List (List UInt8) → List UInt8 → List (List UInt8) × Bool
  | [], q, cn, acc, cur => (acc ++ [cur], !q)
  | c :: r, q, cn, acc, cur =>
    if (c.toNat : Int) == sg.toNat && !q then partsR sg r q cn (acc ++ [cur]) []
    else if cn then partsR sg r q false acc (cur ++ [c])
    else if isQ c then partsR sg r (!q) cn acc (cur ++ [c])
    else if isBS c then partsR sg r q q acc (cur ++ [c])
    else partsR sg r q cn acc (cur ++ [c])

def okMap (x : List (List UInt8) × Bool) : Option (List (List UInt8)) := if x.2 then some (x.1.map trim) else none

theorem isQ_eq (c : UInt8) (h : isQ c = true) : (c.toNat : Int) = 34 := by simpa [isQ] using h
theorem isBS_eq (c : UInt8) (h : isBS c = true) : (c.toNat : Int) = 92 := by simpa [isBS] using h

theorem cutP_partsR (sg : UInt8) (h1 : isQ sg = false) (h2 : isBS sg = false) (l : List UInt8) (q : Bool) (cur : List UInt8) (acc : List (List UInt8)) :
    cutP sg l q cur (acc.map trim) = okMap (partsR sg l q false acc cur) := by
  have hq : ∀ c, isQ c = true → ((c.toNat : Int) == (sg.toNat : Int)) = false := fun c hc => by
    have := isQ_eq c hc
    simp [isQ] at h1
    simp; omega
  have hb : ∀ c, isBS c = true → ((c.toNat : Int) == (sg.toNat : Int)) = false := fun c hc => by
    have := isBS_eq c hc
    simp [isBS] at h2
    simp; omega
  have hbq : ∀ c, isBS c = true → isQ c = false := fun c hc => by
    have := isBS_eq c hc
    simp [isQ]; omega
  have mapsnoc : ∀ (acc : List (List UInt8)) cur, acc.map trim ++ [trim cur] = (acc ++ [cur]).map trim := fun acc cur => by simp
  match l with
  | [] => cases q <;> simp [cutP, partsR, okMap]
  | [c] =>
    unfold cutP partsR
    cases hc : isQ c
    · cases hbs : isBS c
      · cases hs : ((c.toNat : Int) == (sg.toNat : Int)) <;> cases q <;> simp [hc, hbs, hs, cutP, partsR, okMap]
      · have := hb c hbs
        cases q <;> simp [hc, hbs, this, cutP, partsR, okMap]
    · have := hq c hc
      cases q <;> simp [hc, this, cutP, partsR, okMap]
  | c :: d :: r =>
    rw [cutP, partsR]
    cases hc : isQ c
    · cases hbs : isBS c
      · cases hs : ((c.toNat : Int) == (sg.toNat : Int)) <;> cases q
        · simp only [hc, hbs, hs, Bool.false_and, Bool.and_false, Bool.not_false, Bool.true_and, Bool.false_eq_true, if_false]
          exact cutP_partsR sg h1 h2 (d :: r) _ _ _
        · simp only [hc, hbs, hs, Bool.false_and, Bool.and_false, Bool.not_true, Bool.true_and, Bool.false_eq_true, if_false]
          exact cutP_partsR sg h1 h2 (d :: r) _ _ _
        · simp only [hc, hbs, hs, Bool.false_and, Bool.and_false, Bool.not_false, Bool.true_and, Bool.false_eq_true, if_false, if_true, mapsnoc]
          exact cutP_partsR sg h1 h2 (d :: r) _ _ _
        · simp only [hc, hbs, hs, Bool.false_and, Bool.and_false, Bool.not_true, Bool.true_and, Bool.false_eq_true, if_false]
          exact cutP_partsR sg h1 h2 (d :: r) _ _ _
      · have hs := hb c hbs
        cases q
        · simp only [hc, hbs, hs, Bool.false_and, Bool.and_false, Bool.not_false, Bool.true_and, Bool.false_eq_true, if_false, if_true]
          exact cutP_partsR sg h1 h2 (d :: r) _ _ _
        · simp only [hc, hbs, hs, Bool.false_and, Bool.and_false, Bool.not_true, Bool.true_and, Bool.and_true, Bool.false_eq_true, if_false, if_true]
          rw [partsR]
          simp only [Bool.not_true, Bool.and_false, Bool.false_eq_true, if_false, if_true]
          rw [show cur ++ [c, d] = cur ++ [c] ++ [d] by simp]
          exact cutP_partsR sg h1 h2 r _ _ _
    · have hs := hq c hc
      simp only [hc, hs, Bool.false_and, Bool.false_eq_true, if_false, if_true]
      exact cutP_partsR sg h1 h2 (d :: r) _ _ _
termination_by l.length

/-- How many parts and letters there are. -/
theorem cutP_len (sg : UInt8) (l : List UInt8) (q : Bool) (cur : List UInt8) (acc out : List (List UInt8)) (h : cutP sg l q cur acc = some out) : out.length ≤ acc.length + l.length + 1 := by
  fun_induction cutP sg l q cur acc
  all_goals first
    | (rename_i ih; have := ih h; simp only [List.length_cons, List.length_append, List.length_nil] at this ⊢; omega)
    | (cases h; done)
    | (injection h with h; subst h; simp; done)
    | (injection h with h; subst h; simp; omega)
end Go.Larder
namespace Go.Larder
theorem cutP_Q (sg x : UInt8) (r : List UInt8) (q : Bool) (cur : List UInt8) (acc : List (List UInt8)) (h : isQ x = true) : cutP sg (x :: r) q cur acc = cutP sg r (!q) (cur ++ [x]) acc := by
  cases r <;> simp [cutP, h]
theorem cutP_sg (sg x : UInt8) (r : List UInt8) (cur : List UInt8) (acc : List (List UInt8)) (h : isQ x = false) (hs : ((x.toNat : Int) == (sg.toNat : Int)) = true) : cutP sg (x :: r) false cur acc = cutP sg r false [] (acc ++ [trim cur]) := by
  cases r <;> simp [cutP, h, hs]
theorem cutP_out (sg x : UInt8) (r : List UInt8) (cur : List UInt8) (acc : List (List UInt8)) (h : isQ x = false) (hs : ((x.toNat : Int) == (sg.toNat : Int)) = false) : cutP sg (x :: r) false cur acc = cutP sg r false (cur ++ [x]) acc := by
  cases r <;> simp [cutP, h, hs]
theorem cutP_in (sg x : UInt8) (r : List UInt8) (cur : List UInt8) (acc : List (List UInt8)) (h : isQ x = false) (hb : isBS x = false) : cutP sg (x :: r) true cur acc = cutP sg r true (cur ++ [x]) acc := by
  cases r <;> simp [cutP, h, hb]
theorem cutP_esc (sg x d : UInt8) (r : List UInt8) (cur : List UInt8) (acc : List (List UInt8)) (h : isQ x = false) (hb : isBS x = true) : cutP sg (x :: d :: r) true cur acc = cutP sg r true (cur ++ [x, d]) acc := by
  simp [cutP, h, hb]
theorem cutP_esc0 (sg x : UInt8) (cur : List UInt8) (acc : List (List UInt8)) (h : isQ x = false) (hb : isBS x = true) : cutP sg [x] true cur acc = none := by
  simp [cutP, h, hb]

/-- What token.cut answers. -/
def cutE (sg : UInt8) (l : List UInt8) : Except Int (List (List UInt8)) := match cutP sg l false [] [] with
  | none => .error 3
  | some out => .ok out

theorem seg_snoc {α : Type} {l : List α} {f k : Nat} {x : α} (hf : f ≤ k) (hx : l[k]? = some x) : (l.drop f).take (k + 1 - f) = (l.drop f).take (k - f) ++ [x] := by
  rw [show k + 1 - f = (k - f) + 1 by omega, List.take_add_one]
  congr 1
  rw [List.getElem?_drop, show f + (k - f) = k by omega, hx]
  rfl

theorem set_last {α : Type} (acc : List α) (cur x : α) : (acc ++ [cur]).set acc.length x = acc ++ [x] := by
  rw [List.set_append, if_neg (by omega)]
  simp
theorem get_last {α : Type} (acc : List α) (cur : α) : (acc ++ [cur])[acc.length]? = some cur := by simp

/-- Between two rounds of a loop that maps in place. -/
theorem map_step {α : Type} (f : α → α) (l : List α) (j : Nat) (x : α) (hx : l[j]? = some x) :
    ((l.take j).map f ++ l.drop j)[j]? = some x ∧ ((l.take j).map f ++ l.drop j).set j (f x) = (l.take (j + 1)).map f ++ l.drop (j + 1) := by
  have hj : j < l.length := (List.getElem?_eq_some_iff.1 hx).1
  have hl : ((l.take j).map f).length = j := by simp; omega
  constructor
  · rw [List.getElem?_append_right (by omega), hl, Nat.sub_self, List.getElem?_drop, Nat.add_zero, hx]
  · rw [List.set_append, if_neg (by omega), hl, Nat.sub_self, List.take_add_one, hx, List.map_append]
    have hd : l.drop j = x :: l.drop (j + 1) := by
      rw [List.drop_eq_getElem_cons hj]
      rw [List.getElem?_eq_getElem hj] at hx
      injection hx with hx
      rw [hx]
    rw [hd]
    simp
end Go.Larder

namespace Go.Larder
def ne (t : List UInt8) : Bool := !(t == [])
/-- What token.Split answers. -/
def splitE (l : List UInt8) : Except Int (List (List UInt8)) :=
  if 1000 < l.length then .error 2 else match cutE 44 l with
  | .error n => .error n
  | .ok out => if 20 < (out.filter ne).length then .error 2 else .ok (out.filter ne)
theorem cutE_parts (sg : UInt8) (h1 : isQ sg = false) (h2 : isBS sg = false) (l : List UInt8) :
    cutE sg l = if (partsR sg l false false [] []).2 then .ok ((partsR sg l false false [] []).1.map trim) else .error 3 := by
  unfold cutE
  have h := cutP_partsR sg h1 h2 l false [] []
  rw [List.map_nil] at h
  rw [h]
  unfold okMap
  split <;> simp_all
theorem cutE_len (sg : UInt8) (l : List UInt8) (out : List (List UInt8)) (h : cutE sg l = .ok out) : out.length ≤ l.length + 1 := by
  unfold cutE at h
  split at h
  · cases h
  · rename_i o ho
    injection h with h
    subst h
    have := cutP_len sg l false [] [] o ho
    simpa using this
theorem cutE_err (sg : UInt8) (l : List UInt8) (n : Int) (h : cutE sg l = .error n) : n = 3 := by
  unfold cutE at h
  split at h
  · injection h with h; exact h.symm
  · cases h
theorem filter_step {α : Type} (f : α → Bool) (L : List α) (k : Nat) (x : α) (acc : List α) (hs : L.drop k = x :: L.drop (k + 1)) (h : acc ++ (L.drop k).filter f = L.filter f) :
    (f x = true → (acc ++ [x]) ++ (L.drop (k + 1)).filter f = L.filter f) ∧ (f x = false → acc ++ (L.drop (k + 1)).filter f = L.filter f) := by
  rw [hs, List.filter_cons] at h
  constructor
  · intro hx; rw [← h, hx]; simp
  · intro hx; rw [← h, hx]; rfl
end Go.Larder

/- Lists of fields without those that a test strikes. No program in sight. -/
namespace Go.Larder
set_option linter.unusedVariables false
set_option linter.unusedSimpArgs false
def hitsN (ns : List (List UInt8)) (f : Fld) : Bool := ns.any fun y => lowL f.1 == y
def ixP (p : Fld → Bool) : Nat → List Fld → Int
  | _, [] => -1
  | k, f :: l => if p f then (k : Int) else ixP p (k + 1) l
def dropP (p : Fld → Bool) (l : List Fld) : List Fld := l.filter fun f => !p f
theorem ixP_ge (p : Fld → Bool) : ∀ (l : List Fld) (k : Nat), ixP p k l = -1 ∨ ∃ m : Nat, ixP p k l = m ∧ k ≤ m ∧ m < k + l.length ∧ (l.take (m - k)).all (fun f => !p f) = true ∧ (∃ f, l[m - k]? = some f ∧ p f = true)
  | [], k => .inl rfl
  | f :: l, k => by
    unfold ixP
    by_cases h : p f = true
    · rw [if_pos h]
      exact .inr ⟨k, rfl, by omega, by simp, by simp, f, by simp, h⟩
    · rw [if_neg h]
      rcases ixP_ge p l (k + 1) with h1 | ⟨m, h1, h2, h3, h4, g, h5, h6⟩
      · exact .inl h1
      · refine .inr ⟨m, h1, by omega, by simp; omega, ?_, g, ?_, h6⟩
        · rw [show m - k = (m - (k + 1)) + 1 from by omega, List.take_succ_cons, List.all_cons, h4]
          simpa using h
        · rw [show m - k = (m - (k + 1)) + 1 from by omega, List.getElem?_cons_succ]
          exact h5
theorem ixP_none {p : Fld → Bool} : ∀ {l : List Fld} {k : Nat}, ixP p k l = -1 → l.all (fun f => !p f) = true
  | [], _, _ => rfl
  | f :: l, k, h => by
    unfold ixP at h
    by_cases h1 : p f = true
    · rw [if_pos h1] at h; omega
    · rw [if_neg h1] at h
      rw [List.all_cons, ixP_none h]
      simpa using h1
theorem dropP_all {p : Fld → Bool} {l : List Fld} (h : l.all (fun f => !p f) = true) : dropP p l = l := by
  unfold dropP
  exact List.filter_eq_self.2 (by simpa using h)
/-- The place of the first of a text in a list of texts. -/
def ixS (x : List UInt8) : Nat → List (List UInt8) → Int
  | _, [] => -1
  | k, y :: l => if x == y then (k : Int) else ixS x (k + 1) l
theorem ixS_any (x : List UInt8) : ∀ (l : List (List UInt8)) (k : Nat), decide (0 ≤ ixS x k l) = l.any (fun y => x == y)
  | [], k => rfl
  | y :: l, k => by
    unfold ixS
    cases h : (x == y)
    · rw [if_neg (by simp), ixS_any x l (k + 1), List.any_cons, h]; simp
    · rw [if_pos rfl, List.any_cons, h]; simp
def connL : List UInt8 := [67, 111, 110, 110, 101, 99, 116, 105, 111, 110]
def hop7 : List (List UInt8) := [[99, 111, 110, 110, 101, 99, 116, 105, 111, 110], [107, 101, 101, 112, 45, 97, 108, 105, 118, 101], [112, 114, 111, 120, 121, 45, 99, 111, 110, 110, 101, 99, 116, 105, 111, 110], [116, 101], [116, 114, 97, 105, 108, 101, 114], [116, 114, 97, 110, 115, 102, 101, 114, 45, 101, 110, 99, 111, 100, 105, 110, 103], [117, 112, 103, 114, 97, 100, 101]]
def partsOf (s : List UInt8) : List (List UInt8) := match splitE s with
  | .error _ => []
  | .ok p => p
def hopsL (l : List Fld) : List (List UInt8) := hop7 ++ (partsOf (Lib.join (valsL (lowL connL) l) sepL)).map lowL
theorem partsOf_err {s : List UInt8} {n : Int} (h : splitE s = .error n) : partsOf s = [] := by unfold partsOf; rw [h]
theorem partsOf_ok {s : List UInt8} {p : List (List UInt8)} (h : splitE s = .ok p) : partsOf s = p := by unfold partsOf; rw [h]
def stripL (l : List Fld) : List Fld := dropP (hitsN (hopsL l)) l
theorem sum_big {l : List Fld} (h : (l.map (fun f => f.1.length + f.2.length + 3)).sum ≤ 1048576) : l.length ≤ 1048576 ∧ ∀ f ∈ l, f.1.length ≤ 1048576 ∧ f.2.length ≤ 1048576 := by
  have h1 : ∀ l : List Fld, l.length ≤ (l.map (fun f => f.1.length + f.2.length + 3)).sum := by
    intro l
    induction l with
    | nil => simp
    | cons f l ih => simp; omega
  have h2 : ∀ l : List Fld, ∀ f ∈ l, f.1.length + f.2.length ≤ (l.map (fun f => f.1.length + f.2.length + 3)).sum := by
    intro l
    induction l with
    | nil => simp
    | cons g l ih =>
      intro f hf
      rcases List.mem_cons.1 hf with rfl | hf
      · simp; omega
      · have := ih f hf; simp; omega
  exact ⟨by have := h1 l; omega, fun f hf => by have := h2 l f hf; omega⟩
theorem join_ok {nm : List UInt8} {l : List Fld} (h : (l.map (fun f => f.1.length + f.2.length + 3)).sum ≤ 1048576) : (Lib.join (valsL nm l) sepL).length ≤ 1048576 := by
  have h1 := join_len_le (valsL nm l)
  have h2 := vals_len_le nm l
  omega
theorem splitE_20 {s : List UInt8} {l : List (List UInt8)} (h : splitE s = .ok l) : l.length ≤ 20 := by
  unfold splitE at h
  split at h
  · cases h
  · split at h
    · cases h
    · split at h
      · cases h
      · injection h with h; subst h; omega
theorem partsOf_len (s : List UInt8) : (partsOf s).length ≤ 20 := by
  unfold partsOf
  split
  · simp
  · rename_i p hp; exact splitE_20 hp
theorem hopsL_len (l : List Fld) : (hopsL l).length ≤ 27 := by
  unfold hopsL
  have := partsOf_len (Lib.join (valsL (lowL connL) l) sepL)
  simp [hop7]; omega
def mets4 : List (List UInt8) := [[80, 85, 84], [80, 79, 83, 84], [68, 69, 76, 69, 84, 69], [80, 65, 84, 67, 72]]
def inval (m : List UInt8) (c : Int) : Bool := (mets4.any fun y => m == y) && decide (200 ≤ c) && decide (c < 400)
end Go.Larder

/- Directives: the first of a name, the seconds that it says. No program in sight. -/
namespace Go.Larder
set_option linter.unusedVariables false
set_option linter.unusedSimpArgs false
def findD (nm : List UInt8) : List (List UInt8 × Bool × List UInt8) → (List UInt8 × Bool × List UInt8) × Bool
  | [] => (([], false, []), false)
  | d :: l => if d.1 == nm then (d, true) else findD nm l
def secGo (n : Int) : List UInt8 → Int
  | [] => n
  | c :: l => secGo (min (10 * n + (c.toNat - 48)) 2147483648) l
def secs (l : List UInt8) : Int := if l.all (inTab tensTab) then secGo 0 l else 0
theorem secs_yes {l : List UInt8} (h : l.all (inTab tensTab) = true) : secs l = secGo 0 l := if_pos h
theorem secs_no {l : List UInt8} (h : l.all (inTab tensTab) = false) : secs l = 0 := if_neg (by simp [h])
end Go.Larder

/- Directives read: one, a list of them. No program in sight. -/
namespace Go.Larder
open Go.RowKit
set_option linter.unusedVariables false
set_option linter.unusedSimpArgs false
theorem ixb : ∀ (l : List UInt8) (c : UInt8), Lib.indexByte l c = -1 ∨ ∃ k : Nat, Lib.indexByte l c = (k : Int) ∧ k < l.length
  | [], c => .inl rfl
  | x :: l, c => by
    unfold Lib.indexByte
    by_cases h : x = c
    · exact .inr ⟨0, by simp [h], Nat.succ_pos _⟩
    · rcases ixb l c with h1 | ⟨k, h1, h2⟩
      · exact .inl (by simp [h, h1])
      · refine .inr ⟨k + 1, ?_, Nat.succ_lt_succ h2⟩
        have h3 : ((k : Int) == -1) = false := by rw [beq_eq_false_iff_ne]; omega
        have h4 : (x == c) = false := by simp [h]
        rw [h4, h1, h3]
        simp
/-- Unquote of any text. -/
def unqAll : List UInt8 → List UInt8 × Int
  | [] => ([], 3)
  | a :: t => match t.reverse with
    | [] => ([], 3)
    | b :: r => unqMid a r.reverse b
theorem unqAll_short {l : List UInt8} (h : l.length < 2) : unqAll l = ([], 3) := by
  rcases l with _ | ⟨a, _ | ⟨b, t⟩⟩
  · rfl
  · rfl
  · simp at h; omega
theorem unqAll_mid (a : UInt8) (m : List UInt8) (b : UInt8) : unqAll (a :: (m ++ [b])) = unqMid a m b := by
  simp [unqAll]
theorem mid_of {l : List UInt8} (h : ¬ l.length < 2) : ∃ a m b, l = a :: (m ++ [b]) := by
  rcases l with _ | ⟨a, t⟩
  · simp at h
  · rcases nil_or_snoc t with rfl | ⟨m, b, rfl⟩
    · simp at h
    · exact ⟨a, m, b, rfl⟩
theorem unq_len : ∀ (m acc out : List UInt8), unq m acc = some out → out.length ≤ m.length + acc.length := by
  intro m acc
  fun_induction unq m acc with
  | case1 acc => intro out h; injection h with h; subst h; simp
  | case2 c acc h => intro out h; cases h
  | case3 c acc h h2 => intro out h; injection h with h; subst h; simp; omega
  | case4 c acc h h2 => intro out h; cases h
  | case5 c d r acc h h2 ih => intro out h; have := ih out h; simp at this ⊢; omega
  | case6 c d r acc h h2 => intro out h; cases h
  | case7 c d r acc h h2 => intro out h; cases h
  | case8 c d r acc h h2 h3 ih => intro out h; have := ih out h; simp at this ⊢; omega
  | case9 c d r acc h h2 h3 => intro out h; cases h
theorem unqAll_len (l : List UInt8) : (unqAll l).1.length ≤ l.length := by
  by_cases h : l.length < 2
  · rw [unqAll_short h]; simp
  · obtain ⟨a, m, b, rfl⟩ := mid_of h
    rw [unqAll_mid]
    unfold unqMid
    split
    · unfold unqEnd
      split
      · simp
      · rename_i o ho
        have := unq_len m [] o ho
        split
        · simp
        · simp at this ⊢; omega
    · simp
theorem tokLow_nat : ∀ n : Fin 256, tokB (lowB (UInt8.ofNat n.val)) = tokB (UInt8.ofNat n.val) := by decide +kernel
theorem tokLow (c : UInt8) : tokB (lowB c) = tokB c := by
  have := tokLow_nat ⟨c.toNat, c.toNat_lt⟩
  simpa using this
theorem isTok_low (l : List UInt8) : isTok (lowL l) = isTok l := by
  unfold isTok lowL
  have h : (l.map lowB).all tokB = l.all tokB := by
    rw [List.all_map]
    congr 1
    funext c
    exact tokLow c
  rw [h]
  cases l <;> rfl

abbrev Dir' := List UInt8 × Bool × List UInt8
/-- One directive, and whether it can be read. -/
def dirAt (t : List UInt8) (k : Nat) : Dir' × Bool :=
  if isTok (t.drop (k + 1)) then ((lowL (t.take k), true, t.drop (k + 1)), isTok (t.take k))
  else if (unqAll (t.drop (k + 1))).2 = 0 then ((lowL (t.take k), true, (unqAll (t.drop (k + 1))).1), isTok (t.take k))
  else ((lowL (t.take k), true, t.drop (k + 1)), false)
def dirR (t : List UInt8) : Dir' × Bool :=
  if 0 ≤ Lib.indexByte t 61 then dirAt t (Lib.indexByte t 61).toNat else ((lowL t, false, []), isTok t)
theorem dirR_no {t : List UInt8} (h : Lib.indexByte t 61 = -1) : dirR t = ((lowL t, false, []), isTok t) := by unfold dirR; rw [if_neg (by omega)]
theorem dirR_at {t : List UInt8} {k : Nat} (h : Lib.indexByte t 61 = (k : Int)) : dirR t = dirAt t k := by unfold dirR; rw [if_pos (by omega), h]; rfl
def dirsGo : List (List UInt8) → List Dir' → Option (List Dir')
  | [], acc => some acc
  | t :: l, acc => if (dirR t).2 then dirsGo l (acc ++ [(dirR t).1]) else none
def ctlE (s : List UInt8) : Except Int (List Dir') :=
  match splitE s with
  | .error n => .error n
  | .ok l => match dirsGo l [] with
    | none => .error 3
    | some ds => .ok ds
theorem dirsGo_len : ∀ (l : List (List UInt8)) (acc ds : List Dir'), dirsGo l acc = some ds → ds.length = l.length + acc.length
  | [], acc, ds, h => by injection h with h; subst h; simp
  | t :: l, acc, ds, h => by
    unfold dirsGo at h
    split at h
    · have := dirsGo_len l _ ds h; simp at this ⊢; omega
    · cases h
theorem ctlE_err {s : List UInt8} {n : Int} (h : splitE s = .error n) : ctlE s = .error n := by unfold ctlE; rw [h]
theorem ctlE_none {s : List UInt8} {l : List (List UInt8)} (h : splitE s = .ok l) (h2 : dirsGo l [] = none) : ctlE s = .error 3 := by unfold ctlE; rw [h]; simp only [h2]
theorem ctlE_some {s : List UInt8} {l : List (List UInt8)} {ds : List Dir'} (h : splitE s = .ok l) (h2 : dirsGo l [] = some ds) : ctlE s = .ok ds := by unfold ctlE; rw [h]; simp only [h2]
theorem trim_len (l : List UInt8) : (trim l).length ≤ l.length := by
  unfold trim trimR
  rw [List.length_reverse]
  have h1 := (List.dropWhile_sublist isB (l := (l.dropWhile isB).reverse)).length_le
  have h2 := (List.dropWhile_sublist isB (l := l)).length_le
  rw [List.length_reverse] at h1
  omega
theorem partsR_len (sg : UInt8) : ∀ (l : List UInt8) (q cn : Bool) (acc : List (List UInt8)) (cur : List UInt8), ∀ t ∈ (partsR sg l q cn acc cur).1, t ∈ acc ∨ t.length ≤ l.length + cur.length
  | [], q, cn, acc, cur, t, ht => by
    simp [partsR] at ht
    rcases ht with h | rfl
    · exact .inl h
    · exact .inr (by simp)
  | c :: r, q, cn, acc, cur, t, ht => by
    unfold partsR at ht
    have hc : (cur ++ [c]).length = cur.length + 1 := by simp
    split at ht
    · rcases partsR_len sg r q cn _ _ t ht with h | h
      · rcases List.mem_append.1 h with h | h
        · exact .inl h
        · simp at h; subst h; exact .inr (by simp)
      · exact .inr (by simp at h ⊢; omega)
    · split at ht
      · rcases partsR_len sg r _ _ _ _ t ht with h | h
        · exact .inl h
        · exact .inr (by rw [hc] at h; simp; omega)
      · split at ht
        · rcases partsR_len sg r _ _ _ _ t ht with h | h
          · exact .inl h
          · exact .inr (by rw [hc] at h; simp; omega)
        · split at ht
          · rcases partsR_len sg r _ _ _ _ t ht with h | h
            · exact .inl h
            · exact .inr (by rw [hc] at h; simp; omega)
          · rcases partsR_len sg r _ _ _ _ t ht with h | h
            · exact .inl h
            · exact .inr (by rw [hc] at h; simp; omega)
theorem cutE_text {sg : UInt8} (h1 : isQ sg = false) (h2 : isBS sg = false) {s : List UInt8} {l : List (List UInt8)} (h : cutE sg s = .ok l) : ∀ t ∈ l, t.length ≤ s.length := by
  rw [cutE_parts sg h1 h2] at h
  split at h
  · injection h with h
    subst h
    intro t ht
    obtain ⟨u, hu, rfl⟩ := List.mem_map.1 ht
    have h3 := trim_len u
    rcases partsR_len sg s false false [] [] u hu with h4 | h4
    · simp at h4
    · simp at h4; omega
  · cases h
theorem splitE_text {s : List UInt8} {l : List (List UInt8)} (h : splitE s = .ok l) : ∀ t ∈ l, t.length ≤ 1000 := by
  unfold splitE at h
  split at h
  · cases h
  · rename_i hs
    split at h
    · cases h
    · rename_i o ho
      split at h
      · cases h
      · injection h with h
        subst h
        intro t ht
        have := cutE_text rfl rfl ho t (List.mem_filter.1 ht).1
        omega
/-- How many texts there are. -/
theorem splitE_ok {s : List UInt8} {l : List (List UInt8)} (h : splitE s = .ok l) : l.length ≤ 20 := by
  unfold splitE at h
  split at h
  · cases h
  · split at h
    · cases h
    · split at h
      · cases h
      · injection h with h; subst h; omega
end Go.Larder

/- Names that a response varies by. No program in sight. -/
namespace Go.Larder
open Go.RowKit
set_option linter.unusedVariables false
set_option linter.unusedSimpArgs false
def varyN : List UInt8 := [86, 97, 114, 121]
def addN (out : List (List UInt8)) (p : List UInt8) : List (List UInt8) := if p == [42] then out else if out.any (fun y => lowL p == y) then out else out ++ [lowL p]
def namesL (ps : List (List UInt8)) : List (List UInt8) := ps.foldl addN []
def sortL (l : List (List UInt8)) : List (List UInt8) := l.mergeSort leB
theorem addN_mem {out : List (List UInt8)} {p x : List UInt8} : x ∈ addN out p ↔ x ∈ out ∨ ((p == [42]) = false ∧ x = lowL p) := by
  unfold addN
  cases h : (p == [42])
  · simp only [Bool.false_eq_true, if_false, true_and]
    by_cases h2 : (out.any fun y => lowL p == y) = true
    · rw [if_pos h2]
      constructor
      · exact .inl
      · rintro (h' | rfl)
        · exact h'
        · obtain ⟨y, hy, he⟩ := List.any_eq_true.1 h2
          rw [eq_of_beq he]; exact hy
    · rw [if_neg h2]; simp
  · simp
theorem addN_nodup {out : List (List UInt8)} {p : List UInt8} (h : out.Nodup) : (addN out p).Nodup := by
  unfold addN
  cases hp : (p == [42])
  · simp only [Bool.false_eq_true, if_false]
    by_cases h2 : (out.any fun y => lowL p == y) = true
    · rw [if_pos h2]; exact h
    · rw [if_neg h2]
      refine List.nodup_append.2 ⟨h, by simp, fun a ha b hb => ?_⟩
      simp only [List.mem_singleton] at hb
      subst hb
      rintro rfl
      exact h2 (List.any_eq_true.2 ⟨_, ha, by simp⟩)
  · simpa using h
theorem addN_len {out : List (List UInt8)} {p : List UInt8} : (addN out p).length ≤ out.length + 1 := by
  unfold addN
  split
  · omega
  · split
    · omega
    · simp
theorem names_step {ps : List (List UInt8)} {k : Nat} {p : List UInt8} (h : ps[k]? = some p) : namesL (ps.take (k + 1)) = addN (namesL (ps.take k)) p := by
  unfold namesL
  rw [List.take_add_one, h, List.foldl_append]
  rfl
theorem names_nodup (ps : List (List UInt8)) : (namesL ps).Nodup := by
  unfold namesL
  suffices ∀ (l out : List (List UInt8)), out.Nodup → (l.foldl addN out).Nodup from this ps [] List.nodup_nil
  intro l
  induction l with
  | nil => exact fun _ h => h
  | cons a l ih => exact fun out h => ih _ (addN_nodup h)
theorem names_len (ps : List (List UInt8)) : (namesL ps).length ≤ ps.length := by
  unfold namesL
  suffices ∀ (l out : List (List UInt8)), (l.foldl addN out).length ≤ out.length + l.length from by simpa using this ps []
  intro l
  induction l with
  | nil => simp
  | cons a l ih =>
    intro out
    have h1 := ih (addN out a)
    have h2 := addN_len (out := out) (p := a)
    simp only [List.foldl_cons, List.length_cons]
    omega
theorem names_memlen (ps : List (List UInt8)) (B : Nat) (hB : ∀ p ∈ ps, p.length ≤ B) : ∀ x ∈ namesL ps, x.length ≤ B := by
  unfold namesL
  suffices ∀ (l out : List (List UInt8)), (∀ x ∈ out, x.length ≤ B) → (∀ p ∈ l, p.length ≤ B) → ∀ x ∈ l.foldl addN out, x.length ≤ B from this ps [] (by simp) hB
  intro l
  induction l with
  | nil => exact fun _ h _ => h
  | cons a l ih =>
    intro out h hl
    refine ih _ (fun x hx => ?_) (fun p hp => hl p (by simp [hp]))
    rcases addN_mem.1 hx with hx | ⟨_, rfl⟩
    · exact h x hx
    · rw [lowL_len]; exact hl a (by simp)
theorem sortL_perm (l : List (List UInt8)) : (sortL l).Perm l := List.mergeSort_perm l leB
theorem sortL_len (l : List (List UInt8)) : (sortL l).length = l.length := (sortL_perm l).length_eq
theorem leB_trans : ∀ a b c : List UInt8, leB a b = true → leB b c = true → leB a c = true := fun a b c h1 h2 => by simp only [leB, decide_eq_true_eq] at *; exact List.le_trans h1 h2
theorem leB_total : ∀ a b : List UInt8, (leB a b || leB b a) = true := fun a b => by simp only [leB, Bool.or_eq_true, decide_eq_true_eq]; exact List.le_total a b
theorem sortL_pair (l : List (List UInt8)) : (sortL l).Pairwise fun a b => leB a b = true := List.pairwise_mergeSort leB_trans leB_total l
theorem sorted_eq {l m : List (List UInt8)} (hp : l.Perm m) (h1 : l.Pairwise fun a b => leB a b = true) (h2 : m.Pairwise fun a b => leB a b = true) : l = m := by
  refine List.Perm.eq_of_pairwise (le := fun a b => leB a b = true) (fun a b _ _ h1 h2 => ?_) h1 h2 hp
  simp only [leB, decide_eq_true_eq] at h1 h2
  exact List.le_antisymm h1 h2
/-- the reference's way: one laid in after the other -/
def insAt (k : Nat) (s : List UInt8) (out : List (List UInt8)) : List (List UInt8) := out.take k ++ s :: out.drop k
def posOf (s : List UInt8) : List (List UInt8) → Nat
  | [] => 0
  | y :: l => if leB y s then posOf s l + 1 else 0
theorem posOf_le (s : List UInt8) : ∀ l, posOf s l ≤ l.length
  | [] => by simp [posOf]
  | y :: l => by
    have := posOf_le s l
    unfold posOf
    split <;> simp <;> omega
theorem ins_cons_yes {s y : List UInt8} {l : List (List UInt8)} (h : leB y s = true) : insAt (posOf s (y :: l)) s (y :: l) = y :: insAt (posOf s l) s l := by
  rw [posOf, if_pos h]; rfl
theorem ins_cons_no {s y : List UInt8} {l : List (List UInt8)} (h : ¬ leB y s = true) : insAt (posOf s (y :: l)) s (y :: l) = s :: y :: l := by
  rw [posOf, if_neg h]; rfl
theorem ins_perm (s : List UInt8) : ∀ l, (insAt (posOf s l) s l).Perm (s :: l)
  | [] => by simp [insAt, posOf]
  | y :: l => by
    by_cases h : leB y s = true
    · rw [ins_cons_yes h]
      exact ((ins_perm s l).cons y).trans (List.Perm.swap s y l)
    · rw [ins_cons_no h]
theorem ins_pair (s : List UInt8) : ∀ l : List (List UInt8), l.Pairwise (fun a b => leB a b = true) → (insAt (posOf s l) s l).Pairwise fun a b => leB a b = true
  | [], _ => by simp [insAt, posOf]
  | y :: l, h => by
    obtain ⟨h1, h2⟩ := List.pairwise_cons.1 h
    by_cases hy : leB y s = true
    · rw [ins_cons_yes hy]
      refine List.pairwise_cons.2 ⟨fun z hz => ?_, ins_pair s l h2⟩
      rcases List.mem_cons.1 ((ins_perm s l).mem_iff.1 hz) with rfl | hz
      · exact hy
      · exact h1 z hz
    · rw [ins_cons_no hy]
      have hs : leB s y = true := by
        have := leB_total s y
        simp only [Bool.or_eq_true] at this
        rcases this with h' | h'
        · exact h'
        · exact absurd h' hy
      refine List.pairwise_cons.2 ⟨fun z hz => ?_, h⟩
      rcases List.mem_cons.1 hz with rfl | hz
      · exact hs
      · exact leB_trans _ _ _ hs (h1 z hz)
theorem ins_sort {s : List UInt8} {l m : List (List UInt8)} (h : l = sortL m) : insAt (posOf s l) s l = sortL (m ++ [s]) := by
  subst h
  refine sorted_eq ((ins_perm s _).trans ?_) (ins_pair s _ (sortL_pair m)) (sortL_pair _)
  refine List.Perm.trans ?_ (sortL_perm _).symm
  exact ((sortL_perm m).cons s).trans (List.perm_append_comm (l₁ := [s]) (l₂ := m))
theorem posOf_step {s : List UInt8} : ∀ {l : List (List UInt8)} {k : Nat} {y : List UInt8}, l[k]? = some y → k ≤ posOf s l → leB y s = true → k + 1 ≤ posOf s l
  | [], k, y, h, _, _ => by simp at h
  | z :: l, 0, y, h, _, hy => by
    simp at h; subst h
    rw [posOf, if_pos hy]; omega
  | z :: l, k + 1, y, h, hk, hy => by
    rw [List.getElem?_cons_succ] at h
    rw [posOf] at hk ⊢
    split at hk
    · next hz => rw [if_pos hz]; have := posOf_step (s := s) h (by omega) hy; omega
    · omega
theorem posOf_stop {s : List UInt8} : ∀ {l : List (List UInt8)} {k : Nat} {y : List UInt8}, l[k]? = some y → k ≤ posOf s l → leB y s = false → posOf s l = k
  | [], k, y, h, _, _ => by simp at h
  | z :: l, 0, y, h, _, hy => by
    simp at h; subst h
    rw [posOf, if_neg (by simp [hy])]
  | z :: l, k + 1, y, h, hk, hy => by
    rw [List.getElem?_cons_succ] at h
    rw [posOf] at hk ⊢
    split at hk
    · next hz => rw [if_pos hz]; have := posOf_stop (s := s) h (by omega) hy; omega
    · omega
/-- the map's keys are the names -/
theorem keys_names {H : Type} {es : List (Lit × DataW H)} {ns ss : List (List UInt8)} (hp : es.Pairwise (fun p q => p.1 ≠ q.1)) (hk : ∀ p ∈ es, ∃ x, p.1 = .string x) (hn : ns.Nodup) (hm : ∀ x, x ∈ ns ↔ Maps.has (.map es) (.string x) = true) (hs : ss.Perm (strKeys (.map es))) : ss.mergeSort leB = sortL ns :=
  mergeSort_of_perm (hs.trans (perm_strKeys hp hk hn hm).symm)
def varyE (s : List UInt8) : Except Int (List (List UInt8) × Bool) := match splitE s with
  | .error n => .error n
  | .ok ps => if ps.all isTok = true then .ok (sortL (namesL ps), ps.any fun p => p == [42]) else .error 3
theorem varyE_err {s : List UInt8} {n : Int} (h : splitE s = .error n) : varyE s = .error n := by unfold varyE; rw [h]
theorem varyE_bad {s : List UInt8} {ps : List (List UInt8)} (h : splitE s = .ok ps) (hb : ps.all isTok = false) : varyE s = .error 3 := by unfold varyE; rw [h]; simp [hb]
theorem varyE_ok {s : List UInt8} {ps : List (List UInt8)} (h : splitE s = .ok ps) (hb : ps.all isTok = true) : varyE s = .ok (sortL (namesL ps), ps.any fun p => p == [42]) := by unfold varyE; rw [h]; simp [hb]
/-- result as three values -/
def flatV : Except Int (List (List UInt8) × Bool) → List (List UInt8) × Bool × Int
  | .error n => ([], false, n)
  | .ok (l, b) => (l, b, 0)
def matchGo (a b : List Fld) (ns : List (List UInt8)) (star : Bool) : Bool := star || ns.any fun n => !((!(valsL (lowL n) a).isEmpty) == (!(valsL (lowL n) b).isEmpty)) || !(Lib.join (valsL (lowL n) a) sepL == Lib.join (valsL (lowL n) b) sepL)
def matchE (l a b : List Fld) : Bool × Int := match varyE (Lib.join (valsL (lowL varyN) l) sepL) with
  | .error n => (false, n)
  | .ok (ns, star) => (!matchGo a b ns star, 0)
theorem allG_bad {α : Type} {p : α → Bool} {l : List α} {k : Nat} {x : α} (h : l[k]? = some x) (hx : p x = false) : l.all p = false := by
  rw [Bool.eq_false_iff]
  intro hl
  rw [List.all_eq_true.1 hl x (List.mem_of_getElem? h)] at hx
  cases hx
theorem allG_step {α : Type} {p : α → Bool} {l : List α} {k : Nat} {x : α} (h : l[k]? = some x) (hl : (l.take k).all p = true) (hx : p x = true) : (l.take (k + 1)).all p = true := by
  rw [List.take_add_one, h, List.all_append, hl]
  simp [hx]
theorem any_step {α : Type} {p : α → Bool} {l : List α} {k : Nat} {x : α} (h : l[k]? = some x) : (l.take (k + 1)).any p = ((l.take k).any p || p x) := by
  rw [List.take_add_one, h, List.any_append]; simp
end Go.Larder

