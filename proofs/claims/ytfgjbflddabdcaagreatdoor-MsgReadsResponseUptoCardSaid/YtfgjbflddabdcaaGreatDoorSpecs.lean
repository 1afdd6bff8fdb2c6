/- The plain laws that the walks lean on, in one text. No program in sight. -/
import Derived.WalkKit
import Derived.WalkSpells
import Derived.WalkLawsBesides
import Derived.Handy
import Derived.Lib.Hide
import Derived.Lib.Strings
import Derived.Lib.ConvBytes
import Derived.Laws.BytesArg
import Derived.Deep.Draws
import Derived.Deep.AppendLies
import Derived.Maps.AppendAt
import Derived.Lib.AppendStr
import Derived.Laws.IdiomStrings
import Derived.Laws.World
import Derived.Lib.Bytealg
import Derived.Lib.ItoaLen
import Derived.Lib.AtoiTie
import Derived.Lib.Join
import Derived.Lib.SplitLaws
import Derived.Lib.IndexAny
import Derived.Lib.IndexMore
import Derived.Lib.Replace
import Derived.Lib.IndexLaws
import Derived.Lib.IndexBytes
/- Base for the proofs of this seat: texts as lists of bytes, slices that read as lists, slices that the call owns, small facts. No program in sight. -/
namespace Go.Larder
open Go.RowKit
set_option linter.unusedVariables false
set_option linter.unusedSimpArgs false

/-- A text's value, by its bytes. -/
abbrev S (l : List UInt8) : Value := .string ⟨l.toArray⟩

theorem ba_size (l : List UInt8) : (⟨l.toArray⟩ : ByteArray).size = l.length := by show l.toArray.size = _; simp
theorem ba_get (l : List UInt8) (i : Nat) (h : i < (⟨l.toArray⟩ : ByteArray).size) : (⟨l.toArray⟩ : ByteArray)[i]'h = l[i]'(by rw [ba_size] at h; exact h) := by
  show (l.toArray)[i]'_ = _
  simp
theorem ba_extract (l : List UInt8) (a b : Nat) : (⟨l.toArray⟩ : ByteArray).extract a b = ⟨((l.drop a).take (b - a)).toArray⟩ := ByteArray.extract_mk l a b
theorem ba_append (l m : List UInt8) : (⟨l.toArray⟩ : ByteArray) ++ (⟨m.toArray⟩ : ByteArray) = ⟨(l ++ m).toArray⟩ := by
  apply ByteArray.ext
  simp
theorem ba_toList (l : List UInt8) : (⟨l.toArray⟩ : ByteArray).toList = l := by rw [Lib.toList_data]
theorem isEmpty_snoc {α : Type} (l : List α) (b : α) : (l ++ [b]).isEmpty = false := by simp
theorem int_bne (a b : Int) : (a != b) = !(a == b) := rfl
theorem wrap64_u8 (c : UInt8) : wrap64 (c.toNat : Int) = c.toNat := IntWalk.wrap64_in _ ⟨by have := c.toNat_lt; omega, by have := c.toNat_lt; omega⟩
theorem sing_q (x : UInt8) (n : UInt8) : ([x] == [n]) = ((x.toNat : Int) == (n.toNat : Int)) := by
  rw [Bool.eq_iff_iff]
  simp
  constructor
  · rintro rfl; rfl
  · intro h; exact UInt8.toNat_inj.1 (by omega)
theorem u8_mod32 (c : UInt8) : (c.toNat : Int) % 4294967296 = c.toNat := by have := c.toNat_lt; omega
attribute [go_sem] u8_mod32 wrap64_u8 int_bne ba_size ba_get ba_extract ba_append ba_toList isEmpty_snoc

/-- A text's length, off its value: for a loop's measure. -/
def lenOf : Value → Nat
  | .string b => b.size
  | _ => 0
theorem lenOf_S (l : List UInt8) : lenOf (S l) = l.length := ba_size l

theorem lenOf_empty : lenOf (.string ByteArray.empty) = 0 := rfl

theorem ret_bool {a b : Bool} (h : a = b) : Ending.returned (.bool a) = .returned (.bool b) := by rw [h]
theorem ret_int {k : IntKind} {a b : Int} (h : a = b) : Ending.returned (.int k a) = .returned (.int k b) := by rw [h]
theorem ret_S {a b : List UInt8} (h : a = b) : Ending.returned (S a) = .returned (S b) := by rw [h]

/-- What a test on a byte says of it. -/
theorem u8_beq (c : UInt8) (n : Nat) (h : n < 256) : ((c.toNat : Int) == (n : Int)) = (c == UInt8.ofNat n) := by
  rw [Bool.eq_iff_iff, beq_iff_eq, beq_iff_eq]
  constructor
  · intro e
    have : c.toNat = n := by omega
    rw [← this]; simp
  · rintro rfl
    simp; omega

theorem drop_step {α : Type} {l : List α} {k : Nat} (h : k < l.length) : ∃ x, l[k]? = some x ∧ l.drop k = x :: l.drop (k + 1) :=
  ⟨l[k], List.getElem?_eq_getElem h, List.drop_eq_getElem_cons h⟩
theorem drop_end {α : Type} {l : List α} {k : Nat} (h : ¬ k < l.length) : l.drop k = [] := List.drop_eq_nil_of_le (by omega)

theorem nil_or_snoc {α : Type} (l : List α) : l = [] ∨ ∃ m b, l = m ++ [b] := by
  rcases List.eq_nil_or_concat l with h | ⟨m, b, h⟩
  · exact .inl h
  · exact .inr ⟨m, b, by simpa using h⟩

/-- How an element lies in cells. -/
structure ElemT (α : Type) where
  enc : α → List Value
  size : Nat
  len : ∀ a, (enc a).length = size
  one : ∀ a, ∀ u ∈ enc a, u.oneCell' = true
  pos : 0 < size

def encB : ElemT UInt8 := ⟨fun b => [.int .u8 b.toNat], 1, fun _ => rfl, fun _ u hu => by simp at hu; subst hu; rfl, by omega⟩
def encS : ElemT (List UInt8) := ⟨fun s => [S s], 1, fun _ => rfl, fun _ u hu => by simp at hu; subst hu; rfl, by omega⟩
def encI : ElemT Int := ⟨fun n => [.int .i64 n], 1, fun _ => rfl, fun _ u hu => by simp at hu; subst hu; rfl, by omega⟩
/-- Two texts: a field, a parameter. -/
def encF : ElemT (List UInt8 × List UInt8) := ⟨fun f => [S f.1, S f.2], 2, fun _ => rfl, fun _ u hu => by simp at hu; rcases hu with rfl | rfl <;> rfl, by omega⟩
/-- Two numbers. -/
def encII : ElemT (Int × Int) := ⟨fun f => [.int .i64 f.1, .int .i64 f.2], 2, fun _ => rfl, fun _ u hu => by simp at hu; rcases hu with rfl | rfl <;> rfl, by omega⟩

section
variable {α : Type} (E : ElemT α)

theorem ElemT.length_flatMap (l : List α) : (l.flatMap E.enc).length = l.length * E.size := by
  induction l with
  | nil => simp
  | cons a l ih => simp [List.flatMap_cons, E.len, ih, Nat.add_mul]; omega

theorem ElemT.one_flatMap (l : List α) : ∀ u ∈ l.flatMap E.enc, u.oneCell' = true := by
  intro u hu
  obtain ⟨a, _, h⟩ := List.mem_flatMap.1 hu
  exact E.one a u h

theorem ElemT.get_flatMap : ∀ (l : List α) (k : Nat) (a : α) (j : Nat) (u : Value), l[k]? = some a → (E.enc a)[j]? = some u → (l.flatMap E.enc)[k * E.size + j]? = some u
  | [], k, a, j, u, h, _ => by simp at h
  | x :: l, 0, a, j, u, h, hj => by
    simp at h
    subst h
    rw [List.flatMap_cons, Nat.zero_mul, Nat.zero_add, List.getElem?_append_left]
    · exact hj
    · exact (List.getElem?_eq_some_iff.1 hj).1
  | x :: l, k + 1, a, j, u, h, hj => by
    rw [List.getElem?_cons_succ] at h
    rw [List.flatMap_cons, List.getElem?_append_right (by rw [E.len, Nat.add_mul]; omega), E.len, show (k + 1) * E.size + j - E.size = k * E.size + j from by rw [Nat.add_mul]; omega]
    exact ElemT.get_flatMap l k a j u h hj

/-- The slice '.slice A l.length _' reads as l, in a block below B. -/
def ReadL (w : World) (B : Nat) (A : Option Addr) (l : List α) : Prop :=
  0 < l.length → ∃ b off, A = some ⟨b, off, none⟩ ∧ b < B ∧ ∀ k a, l[k]? = some a → ∀ j u, (E.enc a)[j]? = some u → w.cell? ⟨b, off + k * E.size + j, none⟩ = some u

/-- The slice '.slice A l.length c' holds l in a row of the call's own (from block 'base' on). -/
def OwnL (w : World) (base : Nat) (e : TypeId) (A : Option Addr) (c : Nat) (l : List α) : Prop :=
  w.ownsRow base e E.size (.slice A l.length c) l.length (l.flatMap E.enc)
end

section
variable {α : Type} {E : ElemT α} {w w' : World} {B B' base : Nat} {e : TypeId} {A : Option Addr} {c : Nat} {l : List α}

theorem ReadL.nil : ReadL E w B A ([] : List α) := fun h => absurd h (by simp)
theorem ReadL.keep (h : ReadL E w B A l) (hk : ∀ p : Addr, p.block < B → w'.cell? p = w.cell? p) : ReadL E w' B A l := fun hn => by
  obtain ⟨b, off, rfl, hb, hc⟩ := h hn
  exact ⟨b, off, rfl, hb, fun k a ha j u hu => (hk _ hb).trans (hc k a ha j u hu)⟩
theorem ReadL.more (h : ReadL E w B A l) (hB : B ≤ B') : ReadL E w B' A l := fun hn => by
  obtain ⟨b, off, rfl, hb, hc⟩ := h hn
  exact ⟨b, off, rfl, by omega, hc⟩
theorem ReadL.below (h : ReadL E w B A l) (hb : Below B' w w') (hB : B ≤ B') : ReadL E w' B A l := h.keep fun _ hp => hb.cell (by omega)
theorem ReadL.alloc (h : ReadL E w B A l) (hB : B ≤ w.heap.size) (o : Obj) : ReadL E (w.alloc o) B A l := h.keep fun p hp => World.cell?_alloc_lt w o p (by omega)
theorem ReadL.at_ (h : ReadL E w B A l) {k : Nat} {a : α} (ha : l[k]? = some a) :
    ∃ b off, A = some ⟨b, off, none⟩ ∧ b < B ∧ ∀ j u, (E.enc a)[j]? = some u → w.cell? ⟨b, off + k * E.size + j, none⟩ = some u := by
  obtain ⟨b, off, rfl, hb, hc⟩ := h (by have := (List.getElem?_eq_some_iff.1 ha).1; omega)
  exact ⟨b, off, rfl, hb, hc k a ha⟩
theorem ReadL.at_B {l : List UInt8} (h : ReadL encB w B A l) {k : Nat} {x : UInt8} (hx : l[k]? = some x) : ∃ b off, A = some ⟨b, off, none⟩ ∧ b < B ∧ w.cell? ⟨b, off + k, none⟩ = some (.int .u8 x.toNat) := by
  obtain ⟨b, off, hA, hb, hc⟩ := h.at_ hx
  exact ⟨b, off, hA, hb, by simpa [encB] using hc 0 _ rfl⟩
theorem ReadL.at_S {l : List (List UInt8)} (h : ReadL encS w B A l) {k : Nat} {x : List UInt8} (hx : l[k]? = some x) : ∃ b off, A = some ⟨b, off, none⟩ ∧ b < B ∧ w.cell? ⟨b, off + k, none⟩ = some (S x) := by
  obtain ⟨b, off, hA, hb, hc⟩ := h.at_ hx
  exact ⟨b, off, hA, hb, by simpa [encS] using hc 0 _ rfl⟩
theorem ReadL.at_I {l : List Int} (h : ReadL encI w B A l) {k : Nat} {x : Int} (hx : l[k]? = some x) : ∃ b off, A = some ⟨b, off, none⟩ ∧ b < B ∧ w.cell? ⟨b, off + k, none⟩ = some (.int .i64 x) := by
  obtain ⟨b, off, hA, hb, hc⟩ := h.at_ hx
  exact ⟨b, off, hA, hb, by simpa [encI] using hc 0 _ rfl⟩
theorem ReadL.at_F {l : List (List UInt8 × List UInt8)} (h : ReadL encF w B A l) {k : Nat} {x : List UInt8 × List UInt8} (hx : l[k]? = some x) :
    ∃ b off, A = some ⟨b, off, none⟩ ∧ b < B ∧ w.cell? ⟨b, off + k * 2, none⟩ = some (S x.1) ∧ w.cell? ⟨b, off + k * 2 + 1, none⟩ = some (S x.2) := by
  obtain ⟨b, off, hA, hb, hc⟩ := h.at_ hx
  exact ⟨b, off, hA, hb, by simpa [encF] using hc 0 _ rfl, by simpa [encF] using hc 1 _ rfl⟩
theorem ReadL.at_II {l : List (Int × Int)} (h : ReadL encII w B A l) {k : Nat} {x : Int × Int} (hx : l[k]? = some x) :
    ∃ b off, A = some ⟨b, off, none⟩ ∧ b < B ∧ w.cell? ⟨b, off + k * 2, none⟩ = some (.int .i64 x.1) ∧ w.cell? ⟨b, off + k * 2 + 1, none⟩ = some (.int .i64 x.2) := by
  obtain ⟨b, off, hA, hb, hc⟩ := h.at_ hx
  exact ⟨b, off, hA, hb, by simpa [encII] using hc 0 _ rfl, by simpa [encII] using hc 1 _ rfl⟩
/-- A literal's block reads as the list. -/
theorem ReadL.lit (w : World) (cs : Array Value) (e : TypeId) (l : List α) (h : cs.toList = l.flatMap E.enc) : ReadL E (w.alloc (.cells cs e)) (w.heap.size + 1) (some ⟨w.heap.size, 0, none⟩) l := fun _ =>
  ⟨_, 0, rfl, by omega, fun k a ha j u hu => by
    have := E.get_flatMap l k a j u ha hu
    rw [← h, Array.getElem?_toList] at this
    rw [cell_of_row _ _ _ cs e (0, 0) (heap_alloc_new w _), Nat.zero_add]
    exact this⟩
theorem ReadL.lit' (w : World) (cs : Array Value) (e : TypeId) (l : List α) (h : cs.toList = l.flatMap E.enc) {g : Nat} (hg : g = w.heap.size) : ReadL E (w.alloc (.cells cs e)) (g + 1) (some ⟨g, 0, none⟩) l := by
  subst hg
  exact ReadL.lit w cs e l h
/-- The slice's tail from k on ('s[k:]' keeps the address at the very end). -/
theorem ReadL.drop {b off : Nat} (h : ReadL E w B (some ⟨b, off, none⟩) l) (k : Nat) : ReadL E w B (some ⟨b, off + k * E.size, none⟩) (l.drop k) := fun hn => by
  rw [List.length_drop] at hn
  obtain ⟨b', off', hA, hb, hc⟩ := h (by omega)
  injection hA with hA
  injection hA with h1 h2
  subst h1 h2
  refine ⟨_, _, rfl, hb, fun i a ha j u hu => ?_⟩
  rw [List.getElem?_drop] at ha
  have := hc (k + i) a ha j u hu
  rwa [Nat.add_mul, ← Nat.add_assoc] at this
theorem ReadL.take (h : ReadL E w B A l) (k : Nat) : ReadL E w B A (l.take k) := fun hn => by
  rw [List.length_take] at hn
  obtain ⟨b, off, hA, hb, hc⟩ := h (by omega)
  refine ⟨b, off, hA, hb, fun i a ha j u hu => hc i a ?_ j u hu⟩
  rw [List.getElem?_take] at ha
  split at ha
  · exact ha
  · cases ha

theorem OwnL.nil (w : World) (base : Nat) (e : TypeId) : OwnL E w base e none 0 ([] : List α) := World.ownsRow_nil _ _ _ _
theorem OwnL.read (h : OwnL E w base e A c l) : ReadL E w w.heap.size A l := fun hn => by
  obtain ⟨_, h2⟩ := h
  rcases h2 with ⟨hv, _⟩ | ⟨g, cap, cur, hv, hg, hh, hnc, _, hcs, hcur⟩
  · injection hv with _ hl
    omega
  · injection hv with hA _ _
    subst hA
    refine ⟨g, 0, rfl, ?_, fun k a ha j u hu => ?_⟩
    · rcases Nat.lt_or_ge g w.heap.size with h' | h'
      · exact h'
      · simp [Array.getElem?_eq_none h'] at hh
    · have hx := E.get_flatMap l k a j u ha hu
      rw [cell_of_row w g _ cur e (0, 0) hh, Nat.zero_add, ← Array.getElem?_toList]
      rw [← hcur, List.getElem?_take] at hx
      split at hx
      · exact hx
      · cases hx
theorem OwnL.lt (h : OwnL E w base e A c l) : ∀ g, A = some g → base ≤ g.block ∧ g.block < w.heap.size := fun g hg => by
  subst hg
  exact World.ownsRow.lt h g.block rfl
theorem OwnL.keep (h : OwnL E w base e A c l) (hk : ∀ g, A = some g → w'.heap[g.block]? = w.heap[g.block]?) : OwnL E w' base e A c l := by
  obtain ⟨h1, h2⟩ := h
  refine ⟨h1, ?_⟩
  rcases h2 with h2 | ⟨g, cap, cur, hv, hg, hh, r⟩
  · exact .inl h2
  · injection hv with hA h3 h4
    exact .inr ⟨g, cap, cur, by rw [hA, h4], hg, (hk _ hA).trans hh, r⟩
theorem OwnL.below (h : OwnL E w base e A c l) (hb : Below B w w') (hB : w.heap.size ≤ B) : OwnL E w' base e A c l :=
  h.keep fun g hg => hb.block _ (by have := (h.lt g hg).2; omega)
theorem OwnL.alloc (h : OwnL E w base e A c l) (o : Obj) : OwnL E (w.alloc o) base e A c l := World.ownsRow.alloc h o
theorem OwnL.drew (h : OwnL E w base e A c l) : OwnL E w.drew base e A c l := h
theorem OwnL.drewN (h : OwnL E w base e A c l) (n : Nat) : OwnL E (w.drewN n) base e A c l := h
theorem OwnL.base_le (h : OwnL E w base e A c l) {base' : Nat} (hb : base' ≤ base) : OwnL E w base' e A c l := by
  obtain ⟨h1, h2⟩ := h
  refine ⟨h1, ?_⟩
  rcases h2 with h2 | ⟨g, cap, cur, hv, hg, r⟩
  · exact .inl h2
  · exact .inr ⟨g, cap, cur, hv, by omega, r⟩
theorem OwnL.some_ (h : OwnL E w base e A c l) (hl : 0 < l.length) : ∃ g, A = some ⟨g, 0, none⟩ ∧ base ≤ g ∧ g < w.heap.size := by
  obtain ⟨_, h2⟩ := h
  rcases h2 with ⟨hv, h0⟩ | ⟨g, cap, cur, hv, hg, hh, r⟩
  · omega
  · injection hv with hA _ _
    refine ⟨g, hA, hg, ?_⟩
    rcases Nat.lt_or_ge g w.heap.size with h' | h'
    · exact h'
    · simp [Array.getElem?_eq_none h'] at hh
end

section
variable {α : Type} {E : ElemT α} {w : World} {base g c : Nat} {e : TypeId}
/-- A literal's block is the call's own. -/
theorem own_lit {α : Type} {E : ElemT α} (w : World) (base : Nat) (e : TypeId) (cs : Array Value) (l : List α) (h : cs.toList = l.flatMap E.enc) (hb : base ≤ w.heap.size) (hm : l.length ≤ maxLen) : OwnL E (w.alloc (.cells cs e)) base e (some ⟨w.heap.size, 0, none⟩) l.length l := by
  have hs : cs.size = l.length * E.size := by rw [← Array.length_toList, h, E.length_flatMap]
  have := World.ownsRow_lit (base := base) (size := E.size) (e := e) w cs l.length hb hm hs
  rw [h] at this
  exact this
theorem OwnL.frozen {l : List α} (h : OwnL E w base e (some ⟨g, 0, none⟩) c l) (j : Nat) : w.frozen? ⟨g, j, none⟩ = false := World.ownsRow.frozenAt h j
theorem OwnL.get_S {l : List (List UInt8)} (h : OwnL encS w base e (some ⟨g, 0, none⟩) c l) {j : Nat} {x : List UInt8} (hx : l[j]? = some x) : w.cell? ⟨g, j, none⟩ = some (S x) := by
  obtain ⟨b, off, hA, _, hc⟩ := h.read.at_S hx
  injection hA with hA
  injection hA with h1 h2
  subst h1 h2
  simpa using hc
theorem OwnL.get_B {l : List UInt8} (h : OwnL encB w base e (some ⟨g, 0, none⟩) c l) {j : Nat} {x : UInt8} (hx : l[j]? = some x) : w.cell? ⟨g, j, none⟩ = some (.int .u8 x.toNat) := by
  obtain ⟨b, off, hA, _, hc⟩ := h.read.at_B hx
  injection hA with hA
  injection hA with h1 h2
  subst h1 h2
  simpa using hc
theorem flat_S (l : List (List UInt8)) : l.flatMap encS.enc = l.map fun s => S s := by
  induction l with
  | nil => rfl
  | cons a l ih => rw [List.flatMap_cons, ih]; rfl
theorem flat_B (l : List UInt8) : l.flatMap encB.enc = l.map fun b => .int .u8 b.toNat := by
  induction l with
  | nil => rfl
  | cons a l ih => rw [List.flatMap_cons, ih]; rfl
theorem OwnL.set_S {l : List (List UInt8)} (h : OwnL encS w base e (some ⟨g, 0, none⟩) c l) (j : Nat) (x : List UInt8) :
    OwnL encS (w.setCell ⟨g, j, none⟩ (S x)) base e (some ⟨g, 0, none⟩) c (l.set j x) := by
  have h1 := (World.ownsRow.stored h j (S x)).1
  unfold OwnL
  rw [flat_S] at h1 ⊢
  rw [List.map_set, List.length_set]
  exact h1
theorem OwnL.set_B {l : List UInt8} (h : OwnL encB w base e (some ⟨g, 0, none⟩) c l) (j : Nat) (x : UInt8) :
    OwnL encB (w.setCell ⟨g, j, none⟩ (.int .u8 x.toNat)) base e (some ⟨g, 0, none⟩) c (l.set j x) := by
  have h1 := (World.ownsRow.stored h j (.int .u8 x.toNat)).1
  unfold OwnL
  rw [flat_B] at h1 ⊢
  rw [List.map_set, List.length_set]
  exact h1
end

/-- A slice type and its element type, as the program's table has them. -/
structure SlT (P : Program) (t e : TypeId) (size bytes : Nat) : Prop where
  ht : P.underlying t = some (.slice e)
  info : ∃ i z, P.info? e = some i ∧ i.zero = some z ∧ i.size = size ∧ i.bytes = bytes ∧ z.cells.size = size

theorem SlT.mk' {P : Program} {t e : TypeId} {z : Value} {size bytes : Nat} (ht : P.underlying t = some (.slice e)) (hi : (P.info? e).map (fun i => (i.zero, i.size, i.bytes)) = some (some z, size, bytes)) (hz : z.cells.size = size) : SlT P t e size bytes := by
  obtain ⟨i, h1, h2, h3, h4⟩ := info_parts hi
  exact ⟨ht, i, z, h1, h2, h3, h4, hz⟩

section
variable {P : Program} {w : World} {ops : Array Oper} {rest : List Oper} {o : Oper} {a : Act} {Q : Exit → Act → World → Prop} {t e : TypeId} {size bytes : Nat} {α : Type} {base c : Nat} {A : Option Addr} {l : List α}

/-- 'append(s, x1, .. , xm)': the elements lie in the block that was laid for them. -/
theorem wpList_app (E : ElemT α) (T : SlT P t e E.size bytes) (news : List α) (hgd : o.guard = none) (s x : Operand)
    (ho : o.op = .call { callee := .builtin .append, args := #[s, x], argTypes := #[t, t] })
    (hs : a.eval s = .slice A l.length c) (hown : OwnL E w base e A c l) (cs : Array Value) (hcs : cs.toList = news.flatMap E.enc) (m : Nat) (hm : news.length = m + 1)
    (hx : a.eval x = .slice (some ⟨w.heap.size, 0, none⟩) (m + 1) (m + 1)) (hb : (l.length + (m + 1)) * bytes ≤ 140737488355328) (h63 : l.length + (m + 1) ≤ maxLen) (hbase : base ≤ w.heap.size)
    (k : ∀ g c' w', OwnL E w' base e (some ⟨g, 0, none⟩) c' (l ++ news) → w.grownBy w' (Value.slice A l.length c).ownBlock → Below base w w' → base ≤ g → wpList P ops Q rest (a.put o.dst (.slice (some ⟨g, 0, none⟩) (l.length + (m + 1)) c')) w') :
    wpList P ops Q (o :: rest) a (w.alloc (.cells cs e)) := by
  obtain ⟨i, z, hi, hz, hz1, hz2, hz3⟩ := T.info
  have hlen : news.length = m + 1 := hm
  refine wpList_append_own _ hgd s x t ho base e i z E.size bytes T.ht hi hz hz1 hz2 hz3 E.pos (.slice A l.length c) l.length (l.flatMap E.enc) hs (World.ownsRow.alloc hown _) ⟨w.heap.size, 0, none⟩ (m + 1) (m + 1) (news.flatMap E.enc) hx
    (by rw [E.length_flatMap, hlen]) ?_ (E.one_flatMap news) h63 hb (by simp; omega) ?_
  · intro j u hj
    exact World.news_of_block (heap_alloc_new w (.cells cs e)) j u (by rw [hcs]; exact hj)
  · intro v' w' h1 h2 _
    obtain ⟨g, cap, rfl⟩ : ∃ g cap, v' = .slice (some ⟨g, 0, none⟩) (l.length + (m + 1)) cap := by
      rcases h1.2 with ⟨_, h0⟩ | ⟨g, cap, _, rfl, _⟩
      · omega
      · exact ⟨g, cap, rfl⟩
    have hl : (l ++ news).length = l.length + (m + 1) := by simp [hlen]
    have hg2 : w.grownBy w' (Value.slice A l.length c).ownBlock :=
      ⟨h2.os, h2.tape, h2.output, Nat.le_trans (by simp) h2.size, fun i hi hne => (h2.block i (by simp; omega) hne).trans (Below.heap_alloc w _ i hi)⟩
    refine k g cap w' ?_ hg2 ⟨h2.os, h2.tape, h2.output, Nat.le_trans (by simp) h2.size, fun i hi => hg2.block i (by omega) ?_⟩ ?_
    · unfold OwnL
      rw [hl, List.flatMap_append]
      exact h1
    · intro hne
      cases A with
      | none => simp [Value.ownBlock] at hne
      | some g' =>
        have := (OwnL.lt hown g' rfl).1
        simp [Value.ownBlock] at hne
        omega
    · exact (World.ownsRow.lt h1 g rfl).1
end

/-- '([]T, Errno)': nothing and a number, or a list in new memory and 0. -/
def SlPost {α : Type} (E : ElemT α) (t : TypeId) (w : World) (r : Except Int (List α)) (e : Ending) (w' : World) : Prop := match r with
  | .error n => e = .returned (.tuple #[.slice none 0 0, .int .i64 n]) ∧ Below w.heap.size w w'
  | .ok out => ∃ A c, e = .returned (.tuple #[.slice A out.length c, .int .i64 0]) ∧ OwnL E w' w.heap.size t A c out ∧ Below w.heap.size w w'
theorem SlPost.err {α : Type} {E : ElemT α} {t : TypeId} {w w' : World} {r : Except Int (List α)} {e : Ending} {n : Int} (h : SlPost E t w r e w') (hr : r = .error n) : e = .returned (.tuple #[.slice none 0 0, .int .i64 n]) ∧ Below w.heap.size w w' := by subst hr; exact h
theorem SlPost.ok_ {α : Type} {E : ElemT α} {t : TypeId} {w w' : World} {r : Except Int (List α)} {e : Ending} {out : List α} (h : SlPost E t w r e w') (hr : r = .ok out) : ∃ A c, e = .returned (.tuple #[.slice A out.length c, .int .i64 0]) ∧ OwnL E w' w.heap.size t A c out ∧ Below w.heap.size w w' := by subst hr; exact h

/-- '(string, Errno)': nothing and a number, or a text and 0. -/
def StPost (w : World) (r : Except Int (List UInt8)) (e : Ending) (w' : World) : Prop := (match r with
  | .error n => e = .returned (.tuple #[S [], .int .i64 n])
  | .ok out => e = .returned (.tuple #[S out, .int .i64 0])) ∧ Below w.heap.size w w'

/-- 'string(b)' of a slice that reads as l. -/
theorem run_bytes_str {P : Program} {w : World} {B : Nat} {A : Option Addr} {l : List UInt8} (src dst : TypeId) {e : TypeId} (hs : P.underlying src = some (.slice e)) (he : P.underlying e = some (.int .u8)) (hd : P.underlying dst = some .string) (h : ReadL encB w B A l) (c : Nat) :
    (convert src dst (.slice A l.length c)).run P w = .ok (S l) w := by
  cases l with
  | nil =>
    cases A with
    | none => exact run_convert_bytes_nil w src e hs he 0 c dst hd
    | some ad =>
      obtain ⟨b, off, sp⟩ := ad
      rw [run_convert_bytes_string w src dst e _ _ c hs he hd, run_bytesToString w ⟨b, off, sp⟩ _ c [] (by simpa using run_loadCells_list (P := P) w ⟨b, off, sp⟩ [] (by simp))]
      rfl
  | cons x l =>
    obtain ⟨b, off, rfl, _, hc⟩ := h (by simp)
    have := run_convert_bytes_arg (P := P) w src e hs he b off (x :: l).length c ((x :: l).map fun b => (b.toNat : Int)) (by simp) (fun i hi => by
      have h1 : (x :: l)[i]? = some (x :: l)[i] := List.getElem?_eq_getElem hi
      have h2 := hc i _ h1 0 (.int .u8 ((x :: l)[i]).toNat) rfl
      have h3 : off + i * encB.size + 0 = off + i := by show off + i * 1 + 0 = _; omega
      rw [h3] at h2
      rw [h2, List.getD_eq_getElem?_getD, List.getElem?_map, h1]
      rfl) dst hd
    rw [this]
    congr 2
    unfold strOfNums
    congr 2
    rw [List.map_map]
    conv => rhs; rw [← List.map_id (x :: l)]
    apply List.map_congr_left
    intro y _
    simp

/-- 'string([]byte{..})': a literal's bytes, whatever numbers they are written as. -/
theorem run_lit_str {P : Program} (src dst : TypeId) {e : TypeId} (hs : P.underlying src = some (.slice e)) (he : P.underlying e = some (.int .u8)) (hd : P.underlying dst = some .string) (W : World) (ns : List Int) (cs : Array Value) (hcs : cs.toList = ns.map (Value.int .u8)) (n c : Nat) (hn : n = ns.length) (g : Nat) (hg : g = W.heap.size) :
    (convert src dst (.slice (some ⟨g, 0, none⟩) n c)).run P (W.alloc (.cells cs e)) = .ok (S (ns.map fun n => UInt8.ofNat n.toNat)) (W.alloc (.cells cs e)) := by
  subst hn hg
  have := run_convert_bytes_arg (P := P) (W.alloc (.cells cs e)) src e hs he W.heap.size 0 ns.length c ns rfl (fun i hi => by
    rw [cell_of_row _ _ _ cs e (0, 0) (heap_alloc_new W _), Nat.zero_add, ← Array.getElem?_toList, hcs, List.getElem?_map, List.getD_eq_getElem?_getD, List.getElem?_eq_getElem hi]
    rfl) dst hd
  rw [this]
  rfl

/-- 'append(b, s...)', s a text. -/
theorem wpList_app_str {P : Program} {w : World} {ops : Array Oper} {rest : List Oper} {o : Oper} {a : Act} {Q : Exit → Act → World → Prop} {t tS e : TypeId} {base c : Nat} {A : Option Addr} {l : List UInt8}
    (ht : P.underlying t = some (.slice e)) (hS : P.underlying tS = some .string) (hinfo : (P.info? e).map (fun i => (i.zero, i.size, i.bytes)) = some (some (.int .u8 0), 1, 1)) (hgd : o.guard = none) (s x : Operand)
    (ho : o.op = .call { callee := .builtin .append, args := #[s, x], argTypes := #[t, tS] })
    (hs : a.eval s = .slice A l.length c) (hown : OwnL encB w base e A c l) (m : List UInt8) (hx : a.eval x = S m) (hb : l.length + m.length ≤ 140737488355328) (hbase : base ≤ w.heap.size)
    (k : ∀ A' c' w', OwnL encB w' base e A' c' (l ++ m) → w.grownBy w' (Value.slice A l.length c).ownBlock → Below base w w' → wpList P ops Q rest (a.put o.dst (.slice A' (l.length + m.length) c')) w') :
    wpList P ops Q (o :: rest) a w := by
  obtain ⟨i, hi, hz, hz1, hz2⟩ := info_parts hinfo
  have e1 : (⟨m.toArray⟩ : ByteArray).size = m.length := ba_size m
  refine Lib.wpList_append_own_string w hgd s x t tS ho base e i ht hS hi hz hz1 hz2 _ l.length _ hs hown ⟨m.toArray⟩ hx (by rw [e1]; simp only [maxLen]; omega) (by rw [e1]; exact hb) hbase ?_
  intro v' w' h1 h2 _
  rw [e1] at h1
  obtain ⟨A', cap, rfl⟩ : ∃ A' cap, v' = .slice A' (l.length + m.length) cap := by
    rcases h1.2 with ⟨h, h0⟩ | ⟨g, cap, _, rfl, _⟩
    · exact ⟨none, 0, by rw [h, h0]⟩
    · exact ⟨_, cap, rfl⟩
  have hl : (l ++ m).length = l.length + m.length := by simp
  refine k A' cap w' ?_ h2 ⟨h2.os, h2.tape, h2.output, h2.size, fun j hj => h2.block j (by omega) ?_⟩
  · unfold OwnL
    rw [hl, flat_B, List.map_append, ← flat_B]
    exact h1
  · intro hne
    cases A with
    | none => simp [Value.ownBlock] at hne
    | some g' =>
      have := (OwnL.lt hown g' rfl).1
      simp [Value.ownBlock] at hne
      omega
end Go.Larder

/- Lower case: of bytes, of texts; a row of bytes that '[]byte(s)' laid. No program in sight. -/
namespace Go.Larder
open Go.RowKit
set_option linter.unusedVariables false
set_option linter.unusedSimpArgs false

def lowB (b : UInt8) : UInt8 := if 65 ≤ b.toNat ∧ b.toNat ≤ 90 then b + 32 else b
def lowL (l : List UInt8) : List UInt8 := l.map lowB
theorem lowL_len (l : List UInt8) : (lowL l).length = l.length := List.length_map _
theorem lowB_in {b : UInt8} (h1 : 65 ≤ b.toNat) (h2 : b.toNat ≤ 90) : (lowB b).toNat = b.toNat + 32 := by
  unfold lowB
  rw [if_pos ⟨h1, h2⟩, UInt8.toNat_add]
  simp; omega
theorem lowB_out {b : UInt8} (h : ¬ (65 ≤ b.toNat ∧ b.toNat ≤ 90)) : lowB b = b := if_neg h

theorem set_same {α : Type} {l : List α} {j : Nat} {x : α} (h : l[j]? = some x) : l.set j x = l := by
  obtain ⟨h1, h2⟩ := List.getElem?_eq_some_iff.1 h
  subst h2
  exact List.set_getElem_self h1

/-- A row of bytes in new memory that may be read and written. -/
def RowB (w : World) (g : Nat) (l : List UInt8) : Prop := g < w.heap.size ∧ ∀ j b, l[j]? = some b → w.cell? ⟨g, j, none⟩ = some (.int .u8 b.toNat) ∧ w.frozen? ⟨g, j, none⟩ = false

theorem RowB.new (w : World) (l : List UInt8) (c : Nat) (e : TypeId) :
    RowB (w.drew.alloc (.cells (bytesRow ⟨l.toArray⟩ c) e ((bytesRow ⟨l.toArray⟩ c).size, (bytesRow ⟨l.toArray⟩ c).size + 1))) w.heap.size l := by
  have hh : (w.drew.alloc (.cells (bytesRow ⟨l.toArray⟩ c) e ((bytesRow ⟨l.toArray⟩ c).size, (bytesRow ⟨l.toArray⟩ c).size + 1))).heap[w.heap.size]? = some (.cells (bytesRow ⟨l.toArray⟩ c) e ((bytesRow ⟨l.toArray⟩ c).size, (bytesRow ⟨l.toArray⟩ c).size + 1)) := by
    show (w.heap.push _)[w.heap.size]? = _
    simp
  refine ⟨by show w.heap.size < (w.heap.push _).size; simp, fun j b hb => ?_⟩
  have hj : j < l.length := (List.getElem?_eq_some_iff.1 hb).1
  have hlen : l.length ≤ (bytesRow ⟨l.toArray⟩ c).size := by unfold bytesRow; simp
  constructor
  · unfold World.cell?
    rw [hh]
    have : (bytesRow ⟨l.toArray⟩ c)[j]? = some (.int .u8 b.toNat) := by
      unfold bytesRow
      rw [Array.getElem?_append_left (by simpa using hj)]
      simp [hb]
    simpa using this
  · unfold World.frozen?
    rw [hh]
    simp; omega

theorem RowB.read {w : World} {g : Nat} {l : List UInt8} (h : RowB w g l) : ReadL encB w (g + 1) (some ⟨g, 0, none⟩) l := fun _ =>
  ⟨g, 0, rfl, by omega, fun k a ha j u hu => by
    cases j with
    | zero =>
      have hu' : Value.int .u8 a.toNat = u := by simpa [encB] using hu
      rw [← hu']
      simpa [encB] using (h.2 k a ha).1
    | succ j => simp [encB] at hu⟩

theorem RowB.set {w : World} {g : Nat} {l : List UInt8} (h : RowB w g l) (j : Nat) (x : UInt8) : RowB (w.setCell ⟨g, j, none⟩ (.int .u8 x.toNat)) g (l.set j x) := by
  refine ⟨by simpa using h.1, fun k b hb => ?_⟩
  rw [World.frozen?_setCell]
  rw [List.getElem?_set] at hb
  split at hb
  · rename_i hjk
    subst hjk
    split at hb
    · rename_i hlt
      injection hb with hb
      subst hb
      have h0 := h.2 j _ (List.getElem?_eq_getElem hlt)
      exact ⟨World.cell?_setCell_same _ _ _ h0.1, h0.2⟩
    · cases hb
  · rename_i hjk
    have h0 := h.2 k b hb
    exact ⟨by rw [World.cell?_setCell_other _ _ _ _ (by simp only [ne_eq, Addr.mk.injEq, and_true, true_and]; exact hjk)]; exact h0.1, h0.2⟩
end Go.Larder

/- Token bytes, tokens. No program in sight. -/
namespace Go.Larder
open Go.RowKit
set_option linter.unusedVariables false
set_option linter.unusedSimpArgs false

def signsL : List UInt8 := [33, 35, 36, 37, 38, 39, 42, 43, 45, 46, 94, 95, 96, 124, 126]
def tokTab : List UInt8 := [97, 98, 99, 100, 101, 102, 103, 104, 105, 106, 107, 108, 109, 110, 111, 112, 113, 114, 115, 116, 117, 118, 119, 120, 121, 122, 65, 66, 67, 68, 69, 70, 71, 72, 73, 74, 75, 76, 77, 78, 79, 80, 81, 82, 83, 84, 85, 86, 87, 88, 89, 90, 48, 49, 50, 51, 52, 53, 54, 55, 56, 57, 33, 35, 36, 37, 38, 39, 42, 43, 45, 46, 94, 95, 96, 124, 126]
def tensTab : List UInt8 := [48, 49, 50, 51, 52, 53, 54, 55, 56, 57]
def inTab (t : List UInt8) (c : UInt8) : Bool := decide (0 ≤ Lib.indexByte t c)
def tokB (c : UInt8) : Bool := inTab tokTab c
def isTok (l : List UInt8) : Bool := !l.isEmpty && l.all tokB

theorem tokB_nat : ∀ n : Fin 256, tokB (UInt8.ofNat n.val) = (decide (97 ≤ n.val ∧ n.val ≤ 122) || decide (65 ≤ n.val ∧ n.val ≤ 90) || decide (48 ≤ n.val ∧ n.val ≤ 57) || inTab signsL (UInt8.ofNat n.val)) := by decide +kernel
theorem tokB_eq (c : UInt8) : tokB c = (decide (97 ≤ c.toNat ∧ c.toNat ≤ 122) || decide (65 ≤ c.toNat ∧ c.toNat ≤ 90) || decide (48 ≤ c.toNat ∧ c.toNat ≤ 57) || inTab signsL c) := by
  have := tokB_nat ⟨c.toNat, c.toNat_lt⟩
  simpa using this
theorem tens_nat : ∀ n : Fin 256, inTab tensTab (UInt8.ofNat n.val) = decide (48 ≤ n.val ∧ n.val ≤ 57) := by decide +kernel
theorem tens_eq (c : UInt8) : inTab tensTab c = decide (48 ≤ c.toNat ∧ c.toNat ≤ 57) := by
  have := tens_nat ⟨c.toNat, c.toNat_lt⟩
  simpa using this
theorem all_step {p : UInt8 → Bool} {l : List UInt8} {k : Nat} {x : UInt8} (h : l[k]? = some x) (hp : (l.take k).all p = true) (hx : p x = true) : (l.take (k + 1)).all p = true := by
  rw [List.take_add_one, h]; simpa [hx] using hp
theorem all_bad {p : UInt8 → Bool} {l : List UInt8} {k : Nat} {x : UInt8} (h : l[k]? = some x) (hx : p x = false) : l.all p = false := by
  rw [List.all_eq_false]
  exact ⟨x, List.mem_of_getElem? h, by simp [hx]⟩
end Go.Larder

/- Digits read as a number. No program in sight. -/
namespace Go.Larder
set_option linter.unusedVariables false
set_option linter.unusedSimpArgs false
/-- the number of a text of digits, or -1 -/
def nmGo (n : Int) : List UInt8 → Int
  | [] => n
  | c :: l => if inTab tensTab c = true then nmGo (10 * n + (c.toNat - 48)) l else -1
def nm (l : List UInt8) : Int := nmGo 0 l
theorem nmGo_yes {n : Int} {c : UInt8} {l : List UInt8} (h : inTab tensTab c = true) : nmGo n (c :: l) = nmGo (10 * n + (c.toNat - 48)) l := by rw [nmGo, if_pos h]
theorem nmGo_no {n : Int} {c : UInt8} {l : List UInt8} (h : inTab tensTab c = false) : nmGo n (c :: l) = -1 := by rw [nmGo, if_neg (by simp [h])]
/-- the reference's count -/
def cnt (s : List UInt8) (most : Int) : Int := if s.isEmpty || decide (18 < s.length) || (decide (1 < s.length) && s.head? == some 48) then -1 else if most < nm s then -1 else nm s
theorem digB' (x : UInt8) (h : inTab tensTab x = true) : 48 ≤ x.toNat ∧ x.toNat ≤ 57 := by rw [tens_eq] at h; exact of_decide_eq_true h
theorem digN' (x : UInt8) (h : inTab tensTab x = false) : ¬ (48 ≤ x.toNat ∧ x.toNat ≤ 57) := by rw [tens_eq] at h; exact of_decide_eq_false h
theorem pow10_le {k : Nat} (h : k ≤ 18) : (10 ^ k : Nat) ≤ 1000000000000000000 := Nat.pow_le_pow_right (by omega) h
theorem nmGo_bd : ∀ (l : List UInt8) (n : Int) (j : Nat), 0 ≤ n → n + 1 ≤ (10 ^ j : Nat) → -1 ≤ nmGo n l ∧ nmGo n l + 1 ≤ (10 ^ (j + l.length) : Nat)
  | [], n, j, h0, h1 => ⟨by simp only [nmGo]; omega, by simp only [nmGo]; simpa using h1⟩
  | c :: l, n, j, h0, h1 => by
    cases hc : inTab tensTab c
    · rw [nmGo_no hc]; have : 0 < (10 ^ (j + (c :: l).length) : Nat) := Nat.pow_pos (by omega); exact ⟨by omega, by omega⟩
    · obtain ⟨ha, hb⟩ := digB' c hc
      rw [nmGo_yes hc]
      have := nmGo_bd l (10 * n + (c.toNat - 48)) (j + 1) (by omega) (by rw [Nat.pow_succ]; omega)
      rw [List.length_cons, show j + (l.length + 1) = j + 1 + l.length from by omega]
      exact this
theorem nm_bd (l : List UInt8) (k : Nat) (h : l.length ≤ k) : -1 ≤ nm l ∧ nm l + 1 ≤ (10 ^ k : Nat) := by
  have := nmGo_bd l 0 0 (by omega) (by omega)
  rw [Nat.zero_add] at this
  have h2 : (10 ^ l.length : Nat) ≤ 10 ^ k := Nat.pow_le_pow_right (by omega) h
  exact ⟨this.1, by show nmGo 0 l + 1 ≤ _; omega⟩
theorem nm_all : ∀ (l : List UInt8) (n : Int), 0 ≤ n → (l.all (inTab tensTab) = true ↔ 0 ≤ nmGo n l)
  | [], n, h => by simp [nmGo, h]
  | c :: l, n, h => by
    cases hc : inTab tensTab c
    · rw [nmGo_no hc]; simp [hc]
    · obtain ⟨ha, hb⟩ := digB' c hc
      rw [nmGo_yes hc]
      have := nm_all l (10 * n + (c.toNat - 48)) (by omega)
      simp only [List.all_cons, hc, Bool.true_and]
      exact this
end Go.Larder

/- A number's digits: they read as the number, they are digits, no nought ahead. No program in sight. -/
namespace Go.Larder
set_option linter.unusedSimpArgs false
set_option linter.unusedVariables false
theorem dec_step {n : Nat} (h : ¬ n < 10) : Lib.decDigits n = Lib.decDigits (n / 10) ++ [UInt8.ofNat (48 + n % 10)] := by rw [Lib.decDigits, dif_neg h]
theorem dig_nat (k : Nat) (h : k < 10) : (UInt8.ofNat (48 + k)).toNat = 48 + k := by rw [UInt8.toNat_ofNat']; omega
theorem dec_all (n : Nat) : ∀ x ∈ Lib.decDigits n, 48 ≤ x.toNat ∧ x.toNat ≤ 57 := by
  induction n using Nat.strongRecOn with
  | ind n ih =>
    intro x hx
    by_cases h : n < 10
    · rw [Lib.decDigits_one h, List.mem_singleton] at hx
      subst hx
      rw [dig_nat n h]; omega
    · rw [dec_step h, List.mem_append, List.mem_singleton] at hx
      rcases hx with hx | rfl
      · exact ih (n / 10) (by omega) x hx
      · rw [dig_nat _ (by omega)]; omega
theorem dec_ne (n : Nat) : Lib.decDigits n ≠ [] := by
  by_cases h : n < 10
  · rw [Lib.decDigits_one h]; simp
  · rw [dec_step h]; simp
theorem dec_head (n : Nat) (h0 : 1 ≤ n) : ∃ c r, Lib.decDigits n = c :: r ∧ c ≠ 48 := by
  induction n using Nat.strongRecOn with
  | ind n ih =>
    by_cases h : n < 10
    · refine ⟨_, [], Lib.decDigits_one h, fun hc => ?_⟩
      have := congrArg UInt8.toNat hc
      rw [dig_nat n h] at this
      have : (48 : UInt8).toNat = 48 := rfl
      omega
    · obtain ⟨c, r, e, hc⟩ := ih (n / 10) (by omega) (by omega)
      exact ⟨c, r ++ [UInt8.ofNat (48 + n % 10)], by rw [dec_step h, e]; rfl, hc⟩
theorem nmGo_snoc : ∀ (l : List UInt8) (n : Int) (c : UInt8), (∀ x ∈ l, inTab tensTab x = true) → inTab tensTab c = true → nmGo n (l ++ [c]) = 10 * nmGo n l + (c.toNat - 48)
  | [], n, c, _, hc => by rw [List.nil_append, nmGo_yes hc]; rfl
  | b :: l, n, c, h, hc => by
    rw [List.cons_append, nmGo_yes (h b (by simp)), nmGo_yes (h b (by simp))]
    exact nmGo_snoc l _ c (fun x hx => h x (by simp [hx])) hc
theorem dec_tens (n : Nat) : ∀ x ∈ Lib.decDigits n, inTab tensTab x = true := fun x hx => by rw [tens_eq]; exact decide_eq_true (dec_all n x hx)
theorem nm_dec (n : Nat) : nm (Lib.decDigits n) = n := by
  induction n using Nat.strongRecOn with
  | ind n ih =>
    by_cases h : n < 10
    · rw [Lib.decDigits_one h]
      unfold nm
      rw [nmGo_yes (by rw [tens_eq, dig_nat n h]; simp; omega), dig_nat n h]
      unfold nmGo; omega
    · rw [dec_step h]
      unfold nm
      rw [nmGo_snoc _ _ _ (dec_tens _) (by rw [tens_eq, dig_nat _ (by omega)]; simp; omega), dig_nat _ (by omega)]
      have := ih (n / 10) (by omega)
      unfold nm at this
      rw [this]; omega
theorem dec_inj {m n : Nat} (h : Lib.decDigits m = Lib.decDigits n) : m = n := by
  have a := nm_dec m
  rw [h, nm_dec n] at a
  omega
theorem dec_len18 {n : Nat} (h : n ≤ 99999) : (Lib.decDigits n).length ≤ 18 := by
  have e : ∀ m : Nat, m < 10 → (Lib.decDigits m).length = 1 := fun m hm => by rw [Lib.decDigits_one hm]; rfl
  have s : ∀ m : Nat, ¬ m < 10 → (Lib.decDigits m).length = (Lib.decDigits (m / 10)).length + 1 := fun m hm => by rw [dec_step hm]; simp
  by_cases h1 : n < 10
  · rw [e n h1]; omega
  · rw [s n h1]
    by_cases h2 : n / 10 < 10
    · rw [e _ h2]; omega
    · rw [s _ h2]
      by_cases h3 : n / 10 / 10 < 10
      · rw [e _ h3]; omega
      · rw [s _ h3]
        by_cases h4 : n / 10 / 10 / 10 < 10
        · rw [e _ h4]; omega
        · rw [s _ h4, e _ (by omega)]; omega
/-- the reference's count at a number's digits -/
theorem cnt_dec {n : Nat} {m : Int} (h : n ≤ 99999) (hm : (n : Int) ≤ m) : cnt (Lib.decDigits n) m = n := by
  unfold cnt
  rw [nm_dec, if_neg, if_neg (by omega)]
  have hl := dec_len18 h
  rcases Nat.lt_or_ge n 10 with h1 | h1
  · rw [Lib.decDigits_one h1]; simp
  · obtain ⟨c, r, e, hc⟩ := dec_head n (by omega)
    rw [e] at hl ⊢
    simp [hc]
    simpa using hl
theorem decFrom_snoc : ∀ (l : List UInt8) (acc n : Nat) (b : UInt8) (d : Nat), Lib.decFrom acc l = some n → Lib.digitVal b = some d → Lib.decFrom acc (l ++ [b]) = some (n * 10 + d)
  | [], acc, n, b, d, h, hb => by
    simp only [Lib.decFrom, Option.some.injEq] at h
    subst h
    simp [Lib.decFrom, hb]
  | a :: l, acc, n, b, d, h, hb => by
    simp only [Lib.decFrom, List.cons_append] at h ⊢
    cases ha : Lib.digitVal a with
    | none => simp [ha] at h
    | some e =>
      simp only [ha] at h ⊢
      exact decFrom_snoc l _ n b d h hb
theorem digVal_nat (k : Nat) (h : k < 10) : Lib.digitVal (UInt8.ofNat (48 + k)) = some k := by
  unfold Lib.digitVal
  rw [dig_nat k h, if_pos (by omega)]
  congr 1; omega
theorem decFrom_dec (n : Nat) : Lib.decFrom 0 (Lib.decDigits n) = some n := by
  induction n using Nat.strongRecOn with
  | ind n ih =>
    by_cases h : n < 10
    · rw [Lib.decDigits_one h]
      unfold Lib.decFrom
      rw [digVal_nat n h]
      simp [Lib.decFrom]
    · rw [dec_step h, decFrom_snoc _ _ _ _ _ (ih (n / 10) (by omega)) (digVal_nat _ (by omega))]
      congr 1; omega
theorem atoi_dec (n : Nat) : Lib.atoi (Lib.decDigits n) = some (n : Int) := by
  have hd := decFrom_dec n
  have ha := dec_all n
  have hne := dec_ne n
  generalize Lib.decDigits n = l at *
  cases l with
  | nil => exact absurd rfl hne
  | cons c r =>
    have h1 := ha c (by simp)
    have h45 : (c == 45) = false := by
      rw [beq_eq_false_iff_ne]; intro h; subst h; simp at h1
    have h43 : (c == 43) = false := by
      rw [beq_eq_false_iff_ne]; intro h; subst h; simp at h1
    simp only [Lib.atoi, h45, h43, Lib.decNat, List.isEmpty_cons, hd]
    rfl
theorem atoiAll_dec {n : Nat} (h : n ≤ 99999) : Lib.atoiAll (Lib.decDigits n) = .ok (n : Int) := by
  rw [Lib.atoiAll_short _ (dec_len18 h), atoi_dec]
  rfl
end Go.Larder

/- Lists of fields: set, dropped. No program in sight. -/
namespace Go.Larder
set_option linter.unusedVariables false
set_option linter.unusedSimpArgs false
abbrev Fld := List UInt8 × List UInt8

def hits (nm : List UInt8) (f : Fld) : Bool := lowL f.1 == nm
/-- The place of the first of that name (-1: none), counted from k on. -/
def ixFrom (nm : List UInt8) : Nat → List Fld → Int
  | _, [] => -1
  | k, f :: l => if hits nm f then (k : Int) else ixFrom nm (k + 1) l
theorem ixFrom_ge (nm : List UInt8) : ∀ (l : List Fld) (k : Nat), ixFrom nm k l = -1 ∨ ∃ m : Nat, ixFrom nm k l = m ∧ k ≤ m ∧ m < k + l.length ∧ (l.take (m - k)).all (fun f => !hits nm f) = true ∧ (∃ f, l[m - k]? = some f ∧ hits nm f = true)
  | [], k => .inl rfl
  | f :: l, k => by
    unfold ixFrom
    by_cases h : hits nm f = true
    · rw [if_pos h]
      exact .inr ⟨k, rfl, by omega, by simp, by simp, f, by simp, h⟩
    · rw [if_neg h]
      rcases ixFrom_ge nm l (k + 1) with h1 | ⟨m, h1, h2, h3, h4, g, h5, h6⟩
      · exact .inl h1
      · refine .inr ⟨m, h1, by omega, by simp; omega, ?_, g, ?_, h6⟩
        · rw [show m - k = (m - (k + 1)) + 1 from by omega, List.take_succ_cons, List.all_cons, h4]
          simpa using h
        · rw [show m - k = (m - (k + 1)) + 1 from by omega, List.getElem?_cons_succ]
          exact h5
theorem ixFrom_none {nm : List UInt8} : ∀ {l : List Fld} {k : Nat}, ixFrom nm k l = -1 → l.all (fun f => !hits nm f) = true
  | [], _, _ => rfl
  | f :: l, k, h => by
    unfold ixFrom at h
    by_cases h1 : hits nm f = true
    · rw [if_pos h1] at h; omega
    · rw [if_neg h1] at h
      rw [List.all_cons, ixFrom_none h]
      simpa using h1

def dropL (nm : List UInt8) (l : List Fld) : List Fld := l.filter fun f => !hits nm f
theorem dropL_all {nm : List UInt8} {l : List Fld} (h : l.all (fun f => !hits nm f) = true) : dropL nm l = l := by
  unfold dropL
  exact List.filter_eq_self.2 (by simpa using h)

/-- The reference's way. -/
def setGo (nm name value : List UInt8) : List Fld → List Fld → Bool → List Fld
  | [], out, is => if is then out else out ++ [(name, value)]
  | f :: l, out, is => if hits nm f then (if is then setGo nm name value l out is else setGo nm name value l (out ++ [(name, value)]) true) else setGo nm name value l (out ++ [f]) is
def setR (name value : List UInt8) (l : List Fld) : List Fld := setGo (lowL name) name value l [] false
theorem setGo_true (nm name value : List UInt8) : ∀ (l out : List Fld), setGo nm name value l out true = out ++ dropL nm l
  | [], out => by simp [setGo, dropL]
  | f :: l, out => by
    unfold setGo
    by_cases h : hits nm f = true
    · rw [if_pos h, if_pos rfl, setGo_true nm name value l out]; simp [dropL, h]
    · rw [if_neg h, setGo_true nm name value l _]; simp [dropL, h]
theorem setGo_false (nm name value : List UInt8) : ∀ (l out : List Fld), l.all (fun f => !hits nm f) = true → setGo nm name value l out false = out ++ l ++ [(name, value)]
  | [], out, _ => by simp [setGo]
  | f :: l, out, h => by
    rw [List.all_cons, Bool.and_eq_true] at h
    unfold setGo
    rw [if_neg (by simpa using h.1), setGo_false nm name value l _ h.2]
    simp
theorem setGo_skip (nm name value : List UInt8) : ∀ (p l out : List Fld), p.all (fun f => !hits nm f) = true → setGo nm name value (p ++ l) out false = setGo nm name value l (out ++ p) false
  | [], l, out, _ => by simp
  | f :: p, l, out, h => by
    rw [List.all_cons, Bool.and_eq_true] at h
    rw [List.cons_append]
    conv => lhs; unfold setGo
    rw [if_neg (by simpa using h.1), setGo_skip nm name value p l _ h.2]
    simp
/-- The program's way. -/
theorem setR_none {name value : List UInt8} {l : List Fld} (h : ixFrom (lowL name) 0 l = -1) : setR name value l = l ++ [(name, value)] := by
  unfold setR
  rw [setGo_false _ _ _ l [] (ixFrom_none h)]
  simp
theorem setR_some {name value : List UInt8} {l : List Fld} {m : Nat} (h : ixFrom (lowL name) 0 l = m) : setR name value l = l.take m ++ [(name, value)] ++ dropL (lowL name) (l.drop (m + 1)) := by
  rcases ixFrom_ge (lowL name) l 0 with h1 | ⟨m', h1, h2, h3, h4, f, h5, h6⟩
  · omega
  · obtain rfl : m' = m := by omega
    have hm : m' < l.length := by omega
    have hsplit : l = l.take m' ++ (f :: l.drop (m' + 1)) := by
      have h7 : l[m']? = some f := by simpa using h5
      have h8 := List.drop_eq_getElem_cons hm
      rw [(List.getElem?_eq_some_iff.1 h7).2] at h8
      rw [← h8, List.take_append_drop]
    unfold setR
    conv => lhs; rw [hsplit]
    rw [setGo_skip _ _ _ _ _ _ (by simpa using h4)]
    conv => lhs; unfold setGo
    rw [if_pos h6, if_neg (by simp), setGo_true]
    simp
end Go.Larder

/- The values of a name, joined. No program in sight. -/
namespace Go.Larder
open Go.RowKit
set_option linter.unusedVariables false
set_option linter.unusedSimpArgs false
def valsL (nm : List UInt8) (l : List Fld) : List (List UInt8) := (l.filter (hits nm)).map (·.2)
def sepL : List UInt8 := [44, 32]
def getStep (out : List UInt8) (is : Bool) (v : List UInt8) : List UInt8 := if is then out ++ sepL ++ v else out ++ v
def getGo (nm : List UInt8) : List Fld → List UInt8 → Bool → List UInt8 × Bool
  | [], out, is => (out, is)
  | f :: l, out, is => if hits nm f then getGo nm l (getStep out is f.2) true else getGo nm l out is
theorem join_snoc (vs : List (List UInt8)) (x : List UInt8) : Lib.join (vs ++ [x]) sepL = getStep (Lib.join vs sepL) (!vs.isEmpty) x := by
  cases vs with
  | nil => simp [getStep, Lib.join_nil, Lib.join_one]
  | cons v vs => simp [getStep, Lib.join_cons, Lib.joinTail]
theorem getGo_eq (nm : List UInt8) : ∀ (l : List Fld) (vs : List (List UInt8)), getGo nm l (Lib.join vs sepL) (!vs.isEmpty) = (Lib.join (vs ++ valsL nm l) sepL, !(vs ++ valsL nm l).isEmpty)
  | [], vs => by simp [getGo, valsL]
  | f :: l, vs => by
    unfold getGo
    by_cases h : hits nm f = true
    · rw [if_pos h, ← join_snoc]
      have := getGo_eq nm l (vs ++ [f.2])
      rw [show (!(vs ++ [f.2]).isEmpty) = true from by simp] at this
      rw [this]
      simp [valsL, h]
    · rw [if_neg h, getGo_eq nm l vs]
      simp [valsL, h]
theorem getGo_all (nm : List UInt8) (l : List Fld) : getGo nm l [] false = (Lib.join (valsL nm l) sepL, !(valsL nm l).isEmpty) := by
  have := getGo_eq nm l []
  simpa [Lib.join_nil] using this
theorem join_len_le (vs : List (List UInt8)) : (Lib.join vs sepL).length ≤ (vs.map (fun v => v.length + 2)).sum := by
  induction vs with
  | nil => simp [Lib.join_nil]
  | cons v vs ih =>
    rw [Lib.join_length]
    have h2 : ∀ l : List (List UInt8), 2 * l.length + Lib.lens l = (l.map (fun v => v.length + 2)).sum := by
      intro l
      induction l with
      | nil => rfl
      | cons a l ih2 => simp [Lib.lens] at ih2 ⊢; omega
    have h3 := h2 vs
    simp [Lib.lens, sepL] at h3 ⊢
    omega
theorem vals_len_le (nm : List UInt8) : ∀ l : List Fld, ((valsL nm l).map (fun v => v.length + 2)).sum ≤ (l.map (fun f => f.1.length + f.2.length + 3)).sum
  | [] => by simp [valsL]
  | f :: l => by
    have ih := vals_len_le nm l
    unfold valsL at ih ⊢
    by_cases h : hits nm f = true
    · simp [h] at ih ⊢; omega
    · simp [h] at ih ⊢; omega
end Go.Larder

/- What the functions of package token compute, as Lean functions on lists of bytes. No program in sight. -/
namespace Go.Larder
set_option linter.unusedVariables false
set_option linter.unusedSimpArgs false

def isB (c : UInt8) : Bool := (c.toNat : Int) == 32 || (c.toNat : Int) == 9
def isPl (c : UInt8) : Bool := (decide (32 ≤ (c.toNat : Int)) && decide ((c.toNat : Int) ≤ 126)) || (c.toNat : Int) == 9

def trimR (l : List UInt8) : List UInt8 := (l.reverse.dropWhile isB).reverse
def trim (l : List UInt8) : List UInt8 := trimR (l.dropWhile isB)

theorem trimR_snoc (l : List UInt8) (c : UInt8) : trimR (l ++ [c]) = if isB c then trimR l else l ++ [c] := by
  unfold trimR
  rw [List.reverse_append, List.reverse_singleton, List.singleton_append, List.dropWhile_cons]
  split <;> simp

def isQ (c : UInt8) : Bool := (c.toNat : Int) == 34
def isBS (c : UInt8) : Bool := (c.toNat : Int) == 92

/-- token.Unquote's loop. -/
def unq : List UInt8 → List UInt8 → Option (List UInt8)
  | [], acc => some acc
  | [c], acc => if isQ c || isBS c then none else if isPl c then some (acc ++ [c]) else none
  | c :: d :: r, acc => if isBS c then (if isPl d then unq r (acc ++ [d]) else none) else if isQ c then none else if isPl c then unq (d :: r) (acc ++ [c]) else none

def unqEnd : Option (List UInt8) → List UInt8 × Int
  | none => ([], 3)
  | some b => if 1000 < b.length then ([], 2) else (b, 0)

/-- token.Unquote of a :: (m ++ [b]). -/
def unqMid (a : UInt8) (m : List UInt8) (b : UInt8) : List UInt8 × Int :=
  if isQ a && isQ b then unqEnd (unq m []) else ([], 3)

/-- R.Unquote's loop. -/
def unqR : List UInt8 → Bool → List UInt8 → Option (List UInt8)
  | [], c, acc => if c then none else some acc
  | x :: r, true, acc => unqR r false (acc ++ [x])
  | x :: r, false, acc => if isBS x then unqR r true acc else if isQ x then none else unqR r false (acc ++ [x])

def unqMidR (a : UInt8) (m : List UInt8) (b : UInt8) : List UInt8 × Int :=
  if isQ a && isQ b && (a :: (m ++ [b])).all isPl then unqEnd (unqR m false []) else ([], 3)

theorem unqR_of_unq (m : List UInt8) (acc : List UInt8) : unq m acc = if m.all isPl then unqR m false acc else none := by
  fun_induction unq m acc with
  | case1 acc => simp [unqR]
  | case2 c acc h =>
    simp only [Bool.or_eq_true] at h
    rcases h with h | h
    · have : isBS c = false := by simp [isQ, isBS] at h ⊢; omega
      simp [unqR, h, this]
    · simp [unqR, h]
  | case3 c acc h h2 => simp at h; simp [unqR, h, h2]
  | case4 c acc h h2 => simp [h2]
  | case5 c d r acc h h2 ih =>
    have : isPl c = true := by simp [isBS, isPl] at h ⊢; omega
    simp [unqR, h, h2, this, ih]
  | case6 c d r acc h h2 => simp [h2]
  | case7 c d r acc h h2 => simp [unqR, h, h2]
  | case8 c d r acc h h2 h3 ih =>
    simp only [List.all_cons, Bool.and_eq_true] at ih ⊢
    simp [unqR, h, h2, h3, ih]
  | case9 c d r acc h h2 h3 => simp [h3]

theorem unqMid_eq (a : UInt8) (m : List UInt8) (b : UInt8) : unqMid a m b = unqMidR a m b := by
  unfold unqMid unqMidR
  rw [unqR_of_unq]
  have hq : ∀ c, isQ c = true → isPl c = true := fun c h => by simp [isQ, isPl] at h ⊢; omega
  cases ha : isQ a <;> cases hb : isQ b <;> simp [ha, hb]
  simp only [hq a ha, hq b hb, true_and, and_true]
  split <;> rfl
end Go.Larder

/- How a text is cut at signs outside of quotes, by the program and by the reference, and that the two agree. No program in sight. -/
namespace Go.Larder
set_option linter.unusedVariables false
set_option linter.unusedSimpArgs false

/-! Trim, one blank at a time. -/
theorem trim_cons (b : UInt8) (l : List UInt8) (h : isB b = true) : trim (b :: l) = trim l := by
  unfold trim
  rw [List.dropWhile_cons, h]
  rfl
theorem trim_snoc (l : List UInt8) (b : UInt8) (h : isB b = true) : trim (l ++ [b]) = trim l := by
  unfold trim
  rw [List.dropWhile_append]
  split
  · rename_i he
    have : List.dropWhile isB l = [] := by simpa using he
    rw [this]
    simp [List.dropWhile_cons, h]
  · rw [trimR_snoc, h]; rfl
theorem trim_done (l : List UInt8) (h1 : ∀ b, l.head? = some b → isB b = false) (h2 : ∀ b, l.getLast? = some b → isB b = false) : trim l = l := by
  unfold trim
  have e : List.dropWhile isB l = l := by
    cases l with
    | nil => rfl
    | cons b l => rw [List.dropWhile_cons, h1 b rfl]; rfl
  rw [e]
  rcases nil_or_snoc l with rfl | ⟨m, b, rfl⟩
  · rfl
  · rw [trimR_snoc, h2 b (by simp)]; rfl

/-- token.cut. -/
def cutP (sg : UInt8) : List UInt8 → Bool → List UInt8 → List (List UInt8) → Option (List (List UInt8))
  | [], q, cur, acc => if q then none else some (acc ++ [trim cur])
  | [c], q, cur, acc =>
    if isQ c then cutP sg [] (!q) (cur ++ [c]) acc
    else if q && isBS c then none
    else if !q && (c.toNat : Int) == sg.toNat then cutP sg [] q [] (acc ++ [trim cur])
    else cutP sg [] q (cur ++ [c]) acc
  | c :: d :: r, q, cur, acc =>
    if isQ c then cutP sg (d :: r) (!q) (cur ++ [c]) acc
    else if q && isBS c then cutP sg r q (cur ++ [c, d]) acc
    else if !q && (c.toNat : Int) == sg.toNat then cutP sg (d :: r) q [] (acc ++ [trim cur])
    else cutP sg (d :: r) q (cur ++ [c]) acc

/-- R.parts, ahead of its last loop. -/
def partsR (sg : UInt8) : List UInt8 → Bool → Bool → List (List UInt8) → List UInt8 → List (List UInt8) × Bool
  | [], q, cn, acc, cur => (acc ++ [cur], !q)
  | c :: r, q, cn, acc, cur =>
    if (c.toNat : Int) == sg.toNat && !q then partsR sg r q cn (acc ++ [cur]) []
    else if cn then partsR sg r q false acc (cur ++ [c])
    else if isQ c then partsR sg r (!q) cn acc (cur ++ [c])
    else if isBS c then partsR sg r q q acc (cur ++ [c])
    else partsR sg r q cn acc (cur ++ [c])

def okMap (x : List (List UInt8) × Bool) : Option (List (List UInt8)) := if x.2 then some (x.1.map trim) else none

theorem isQ_eq (c : UInt8) (h : isQ c = true) : (c.toNat : Int) = 34 := by simpa [isQ] using h
theorem isBS_eq (c : UInt8) (h : isBS c = true) : (c.toNat : Int) = 92 := by simpa [isBS] using h

theorem cutP_partsR (sg : UInt8) (h1 : isQ sg = false) (h2 : isBS sg = false) (l : List UInt8) (q : Bool) (cur : List UInt8) (acc : List (List UInt8)) :
    cutP sg l q cur (acc.map trim) = okMap (partsR sg l q false acc cur) := by
  have hq : ∀ c, isQ c = true → ((c.toNat : Int) == (sg.toNat : Int)) = false := fun c hc => by
    have := isQ_eq c hc
    simp [isQ] at h1
    simp; omega
  have hb : ∀ c, isBS c = true → ((c.toNat : Int) == (sg.toNat : Int)) = false := fun c hc => by
    have := isBS_eq c hc
    simp [isBS] at h2
    simp; omega
  have hbq : ∀ c, isBS c = true → isQ c = false := fun c hc => by
    have := isBS_eq c hc
    simp [isQ]; omega
  have mapsnoc : ∀ (acc : List (List UInt8)) cur, acc.map trim ++ [trim cur] = (acc ++ [cur]).map trim := fun acc cur => by simp
  match l with
  | [] => cases q <;> simp [cutP, partsR, okMap]
  | [c] =>
    unfold cutP partsR
    cases hc : isQ c
    · cases hbs : isBS c
      · cases hs : ((c.toNat : Int) == (sg.toNat : Int)) <;> cases q <;> simp [hc, hbs, hs, cutP, partsR, okMap]
      · have := hb c hbs
        cases q <;> simp [hc, hbs, this, cutP, partsR, okMap]
    · have := hq c hc
      cases q <;> simp [hc, this, cutP, partsR, okMap]
  | c :: d :: r =>
    rw [cutP, partsR]
    cases hc : isQ c
    · cases hbs : isBS c
      · cases hs : ((c.toNat : Int) == (sg.toNat : Int)) <;> cases q
        · simp only [hc, hbs, hs, Bool.false_and, Bool.and_false, Bool.not_false, Bool.true_and, Bool.false_eq_true, if_false]
          exact cutP_partsR sg h1 h2 (d :: r) _ _ _
        · simp only [hc, hbs, hs, Bool.false_and, Bool.and_false, Bool.not_true, Bool.true_and, Bool.false_eq_true, if_false]
          exact cutP_partsR sg h1 h2 (d :: r) _ _ _
        · simp only [hc, hbs, hs, Bool.false_and, Bool.and_false, Bool.not_false, Bool.true_and, Bool.false_eq_true, if_false, if_true, mapsnoc]
          exact cutP_partsR sg h1 h2 (d :: r) _ _ _
        · simp only [hc, hbs, hs, Bool.false_and, Bool.and_false, Bool.not_true, Bool.true_and, Bool.false_eq_true, if_false]
          exact cutP_partsR sg h1 h2 (d :: r) _ _ _
      · have hs := hb c hbs
        cases q
        · simp only [hc, hbs, hs, Bool.false_and, Bool.and_false, Bool.not_false, Bool.true_and, Bool.false_eq_true, if_false, if_true]
          exact cutP_partsR sg h1 h2 (d :: r) _ _ _
        · simp only [hc, hbs, hs, Bool.false_and, Bool.and_false, Bool.not_true, Bool.true_and, Bool.and_true, Bool.false_eq_true, if_false, if_true]
          rw [partsR]
          simp only [Bool.not_true, Bool.and_false, Bool.false_eq_true, if_false, if_true]
          rw [show cur ++ [c, d] = cur ++ [c] ++ [d] by simp]
          exact cutP_partsR sg h1 h2 r _ _ _
    · have hs := hq c hc
      simp only [hc, hs, Bool.false_and, Bool.false_eq_true, if_false, if_true]
      exact cutP_partsR sg h1 h2 (d :: r) _ _ _
termination_by l.length

/-- How many parts and letters there are. -/
theorem cutP_len (sg : UInt8) (l : List UInt8) (q : Bool) (cur : List UInt8) (acc out : List (List UInt8)) (h : cutP sg l q cur acc = some out) : out.length ≤ acc.length + l.length + 1 := by
  fun_induction cutP sg l q cur acc
  all_goals first
    | (rename_i ih; have := ih h; simp only [List.length_cons, List.length_append, List.length_nil] at this ⊢; omega)
    | (cases h; done)
    | (injection h with h; subst h; simp; done)
    | (injection h with h; subst h; simp; omega)
end Go.Larder
namespace Go.Larder
theorem cutP_Q (sg x : UInt8) (r : List UInt8) (q : Bool) (cur : List UInt8) (acc : List (List UInt8)) (h : isQ x = true) : cutP sg (x :: r) q cur acc = cutP sg r (!q) (cur ++ [x]) acc := by
  cases r <;> simp [cutP, h]
theorem cutP_sg (sg x : UInt8) (r : List UInt8) (cur : List UInt8) (acc : List (List UInt8)) (h : isQ x = false) (hs : ((x.toNat : Int) == (sg.toNat : Int)) = true) : cutP sg (x :: r) false cur acc = cutP sg r false [] (acc ++ [trim cur]) := by
  cases r <;> simp [cutP, h, hs]
theorem cutP_out (sg x : UInt8) (r : List UInt8) (cur : List UInt8) (acc : List (List UInt8)) (h : isQ x = false) (hs : ((x.toNat : Int) == (sg.toNat : Int)) = false) : cutP sg (x :: r) false cur acc = cutP sg r false (cur ++ [x]) acc := by
  cases r <;> simp [cutP, h, hs]
theorem cutP_in (sg x : UInt8) (r : List UInt8) (cur : List UInt8) (acc : List (List UInt8)) (h : isQ x = false) (hb : isBS x = false) : cutP sg (x :: r) true cur acc = cutP sg r true (cur ++ [x]) acc := by
  cases r <;> simp [cutP, h, hb]
theorem cutP_esc (sg x d : UInt8) (r : List UInt8) (cur : List UInt8) (acc : List (List UInt8)) (h : isQ x = false) (hb : isBS x = true) : cutP sg (x :: d :: r) true cur acc = cutP sg r true (cur ++ [x, d]) acc := by
  simp [cutP, h, hb]
theorem cutP_esc0 (sg x : UInt8) (cur : List UInt8) (acc : List (List UInt8)) (h : isQ x = false) (hb : isBS x = true) : cutP sg [x] true cur acc = none := by
  simp [cutP, h, hb]

/-- What token.cut answers. -/
def cutE (sg : UInt8) (l : List UInt8) : Except Int (List (List UInt8)) := match cutP sg l false [] [] with
  | none => .error 3
  | some out => .ok out

theorem seg_snoc {α : Type} {l : List α} {f k : Nat} {x : α} (hf : f ≤ k) (hx : l[k]? = some x) : (l.drop f).take (k + 1 - f) = (l.drop f).take (k - f) ++ [x] := by
  rw [show k + 1 - f = (k - f) + 1 by omega, List.take_add_one]
  congr 1
  rw [List.getElem?_drop, show f + (k - f) = k by omega, hx]
  rfl

theorem set_last {α : Type} (acc : List α) (cur x : α) : (acc ++ [cur]).set acc.length x = acc ++ [x] := by
  rw [List.set_append, if_neg (by omega)]
  simp
theorem get_last {α : Type} (acc : List α) (cur : α) : (acc ++ [cur])[acc.length]? = some cur := by simp

/-- Between two rounds of a loop that maps in place. -/
theorem map_step {α : Type} (f : α → α) (l : List α) (j : Nat) (x : α) (hx : l[j]? = some x) :
    ((l.take j).map f ++ l.drop j)[j]? = some x ∧ ((l.take j).map f ++ l.drop j).set j (f x) = (l.take (j + 1)).map f ++ l.drop (j + 1) := by
  have hj : j < l.length := (List.getElem?_eq_some_iff.1 hx).1
  have hl : ((l.take j).map f).length = j := by simp; omega
  constructor
  · rw [List.getElem?_append_right (by omega), hl, Nat.sub_self, List.getElem?_drop, Nat.add_zero, hx]
  · rw [List.set_append, if_neg (by omega), hl, Nat.sub_self, List.take_add_one, hx, List.map_append]
    have hd : l.drop j = x :: l.drop (j + 1) := by
      rw [List.drop_eq_getElem_cons hj]
      rw [List.getElem?_eq_getElem hj] at hx
      injection hx with hx
      rw [hx]
    rw [hd]
    simp
end Go.Larder

namespace Go.Larder
def ne (t : List UInt8) : Bool := !(t == [])
/-- What token.Split answers. -/
def splitE (l : List UInt8) : Except Int (List (List UInt8)) :=
  if 1000 < l.length then .error 2 else match cutE 44 l with
  | .error n => .error n
  | .ok out => if 20 < (out.filter ne).length then .error 2 else .ok (out.filter ne)
theorem cutE_parts (sg : UInt8) (h1 : isQ sg = false) (h2 : isBS sg = false) (l : List UInt8) :
    cutE sg l = if (partsR sg l false false [] []).2 then .ok ((partsR sg l false false [] []).1.map trim) else .error 3 := by
  unfold cutE
  have h := cutP_partsR sg h1 h2 l false [] []
  rw [List.map_nil] at h
  rw [h]
  unfold okMap
  split <;> simp_all
theorem cutE_len (sg : UInt8) (l : List UInt8) (out : List (List UInt8)) (h : cutE sg l = .ok out) : out.length ≤ l.length + 1 := by
  unfold cutE at h
  split at h
  · cases h
  · rename_i o ho
    injection h with h
    subst h
    have := cutP_len sg l false [] [] o ho
    simpa using this
theorem cutE_err (sg : UInt8) (l : List UInt8) (n : Int) (h : cutE sg l = .error n) : n = 3 := by
  unfold cutE at h
  split at h
  · injection h with h; exact h.symm
  · cases h
theorem filter_step {α : Type} (f : α → Bool) (L : List α) (k : Nat) (x : α) (acc : List α) (hs : L.drop k = x :: L.drop (k + 1)) (h : acc ++ (L.drop k).filter f = L.filter f) :
    (f x = true → (acc ++ [x]) ++ (L.drop (k + 1)).filter f = L.filter f) ∧ (f x = false → acc ++ (L.drop (k + 1)).filter f = L.filter f) := by
  rw [hs, List.filter_cons] at h
  constructor
  · intro hx; rw [← h, hx]; simp
  · intro hx; rw [← h, hx]; rfl
end Go.Larder

/- Directives read: one, a list of them. No program in sight. -/
namespace Go.Larder
open Go.RowKit
set_option linter.unusedVariables false
set_option linter.unusedSimpArgs false
theorem ixb : ∀ (l : List UInt8) (c : UInt8), Lib.indexByte l c = -1 ∨ ∃ k : Nat, Lib.indexByte l c = (k : Int) ∧ k < l.length
  | [], c => .inl rfl
  | x :: l, c => by
    unfold Lib.indexByte
    by_cases h : x = c
    · exact .inr ⟨0, by simp [h], Nat.succ_pos _⟩
    · rcases ixb l c with h1 | ⟨k, h1, h2⟩
      · exact .inl (by simp [h, h1])
      · refine .inr ⟨k + 1, ?_, Nat.succ_lt_succ h2⟩
        have h3 : ((k : Int) == -1) = false := by rw [beq_eq_false_iff_ne]; omega
        have h4 : (x == c) = false := by simp [h]
        rw [h4, h1, h3]
        simp
/-- Unquote of any text. -/
def unqAll : List UInt8 → List UInt8 × Int
  | [] => ([], 3)
  | a :: t => match t.reverse with
    | [] => ([], 3)
    | b :: r => unqMid a r.reverse b
theorem unqAll_short {l : List UInt8} (h : l.length < 2) : unqAll l = ([], 3) := by
  rcases l with _ | ⟨a, _ | ⟨b, t⟩⟩
  · rfl
  · rfl
  · simp at h; omega
theorem unqAll_mid (a : UInt8) (m : List UInt8) (b : UInt8) : unqAll (a :: (m ++ [b])) = unqMid a m b := by
  simp [unqAll]
theorem mid_of {l : List UInt8} (h : ¬ l.length < 2) : ∃ a m b, l = a :: (m ++ [b]) := by
  rcases l with _ | ⟨a, t⟩
  · simp at h
  · rcases nil_or_snoc t with rfl | ⟨m, b, rfl⟩
    · simp at h
    · exact ⟨a, m, b, rfl⟩
theorem unq_len : ∀ (m acc out : List UInt8), unq m acc = some out → out.length ≤ m.length + acc.length := by
  intro m acc
  fun_induction unq m acc with
  | case1 acc => intro out h; injection h with h; subst h; simp
  | case2 c acc h => intro out h; cases h
  | case3 c acc h h2 => intro out h; injection h with h; subst h; simp; omega
  | case4 c acc h h2 => intro out h; cases h
  | case5 c d r acc h h2 ih => intro out h; have := ih out h; simp at this ⊢; omega
  | case6 c d r acc h h2 => intro out h; cases h
  | case7 c d r acc h h2 => intro out h; cases h
  | case8 c d r acc h h2 h3 ih => intro out h; have := ih out h; simp at this ⊢; omega
  | case9 c d r acc h h2 h3 => intro out h; cases h
theorem unqAll_len (l : List UInt8) : (unqAll l).1.length ≤ l.length := by
  by_cases h : l.length < 2
  · rw [unqAll_short h]; simp
  · obtain ⟨a, m, b, rfl⟩ := mid_of h
    rw [unqAll_mid]
    unfold unqMid
    split
    · unfold unqEnd
      split
      · simp
      · rename_i o ho
        have := unq_len m [] o ho
        split
        · simp
        · simp at this ⊢; omega
    · simp
theorem tokLow_nat : ∀ n : Fin 256, tokB (lowB (UInt8.ofNat n.val)) = tokB (UInt8.ofNat n.val) := by decide +kernel
theorem tokLow (c : UInt8) : tokB (lowB c) = tokB c := by
  have := tokLow_nat ⟨c.toNat, c.toNat_lt⟩
  simpa using this
theorem isTok_low (l : List UInt8) : isTok (lowL l) = isTok l := by
  unfold isTok lowL
  have h : (l.map lowB).all tokB = l.all tokB := by
    rw [List.all_map]
    congr 1
    funext c
    exact tokLow c
  rw [h]
  cases l <;> rfl

abbrev Dir' := List UInt8 × Bool × List UInt8
/-- One directive, and whether it can be read. -/
def dirAt (t : List UInt8) (k : Nat) : Dir' × Bool :=
  if isTok (t.drop (k + 1)) then ((lowL (t.take k), true, t.drop (k + 1)), isTok (t.take k))
  else if (unqAll (t.drop (k + 1))).2 = 0 then ((lowL (t.take k), true, (unqAll (t.drop (k + 1))).1), isTok (t.take k))
  else ((lowL (t.take k), true, t.drop (k + 1)), false)
def dirR (t : List UInt8) : Dir' × Bool :=
  if 0 ≤ Lib.indexByte t 61 then dirAt t (Lib.indexByte t 61).toNat else ((lowL t, false, []), isTok t)
theorem dirR_no {t : List UInt8} (h : Lib.indexByte t 61 = -1) : dirR t = ((lowL t, false, []), isTok t) := by unfold dirR; rw [if_neg (by omega)]
theorem dirR_at {t : List UInt8} {k : Nat} (h : Lib.indexByte t 61 = (k : Int)) : dirR t = dirAt t k := by unfold dirR; rw [if_pos (by omega), h]; rfl
def dirsGo : List (List UInt8) → List Dir' → Option (List Dir')
  | [], acc => some acc
  | t :: l, acc => if (dirR t).2 then dirsGo l (acc ++ [(dirR t).1]) else none
def ctlE (s : List UInt8) : Except Int (List Dir') :=
  match splitE s with
  | .error n => .error n
  | .ok l => match dirsGo l [] with
    | none => .error 3
    | some ds => .ok ds
theorem dirsGo_len : ∀ (l : List (List UInt8)) (acc ds : List Dir'), dirsGo l acc = some ds → ds.length = l.length + acc.length
  | [], acc, ds, h => by injection h with h; subst h; simp
  | t :: l, acc, ds, h => by
    unfold dirsGo at h
    split at h
    · have := dirsGo_len l _ ds h; simp at this ⊢; omega
    · cases h
theorem ctlE_err {s : List UInt8} {n : Int} (h : splitE s = .error n) : ctlE s = .error n := by unfold ctlE; rw [h]
theorem ctlE_none {s : List UInt8} {l : List (List UInt8)} (h : splitE s = .ok l) (h2 : dirsGo l [] = none) : ctlE s = .error 3 := by unfold ctlE; rw [h]; simp only [h2]
theorem ctlE_some {s : List UInt8} {l : List (List UInt8)} {ds : List Dir'} (h : splitE s = .ok l) (h2 : dirsGo l [] = some ds) : ctlE s = .ok ds := by unfold ctlE; rw [h]; simp only [h2]
theorem trim_len (l : List UInt8) : (trim l).length ≤ l.length := by
  unfold trim trimR
  rw [List.length_reverse]
  have h1 := (List.dropWhile_sublist isB (l := (l.dropWhile isB).reverse)).length_le
  have h2 := (List.dropWhile_sublist isB (l := l)).length_le
  rw [List.length_reverse] at h1
  omega
theorem partsR_len (sg : UInt8) : ∀ (l : List UInt8) (q cn : Bool) (acc : List (List UInt8)) (cur : List UInt8), ∀ t ∈ (partsR sg l q cn acc cur).1, t ∈ acc ∨ t.length ≤ l.length + cur.length
  | [], q, cn, acc, cur, t, ht => by
    simp [partsR] at ht
    rcases ht with h | rfl
    · exact .inl h
    · exact .inr (by simp)
  | c :: r, q, cn, acc, cur, t, ht => by
    unfold partsR at ht
    have hc : (cur ++ [c]).length = cur.length + 1 := by simp
    split at ht
    · rcases partsR_len sg r q cn _ _ t ht with h | h
      · rcases List.mem_append.1 h with h | h
        · exact .inl h
        · simp at h; subst h; exact .inr (by simp)
      · exact .inr (by simp at h ⊢; omega)
    · split at ht
      · rcases partsR_len sg r _ _ _ _ t ht with h | h
        · exact .inl h
        · exact .inr (by rw [hc] at h; simp; omega)
      · split at ht
        · rcases partsR_len sg r _ _ _ _ t ht with h | h
          · exact .inl h
          · exact .inr (by rw [hc] at h; simp; omega)
        · split at ht
          · rcases partsR_len sg r _ _ _ _ t ht with h | h
            · exact .inl h
            · exact .inr (by rw [hc] at h; simp; omega)
          · rcases partsR_len sg r _ _ _ _ t ht with h | h
            · exact .inl h
            · exact .inr (by rw [hc] at h; simp; omega)
theorem cutE_text {sg : UInt8} (h1 : isQ sg = false) (h2 : isBS sg = false) {s : List UInt8} {l : List (List UInt8)} (h : cutE sg s = .ok l) : ∀ t ∈ l, t.length ≤ s.length := by
  rw [cutE_parts sg h1 h2] at h
  split at h
  · injection h with h
    subst h
    intro t ht
    obtain ⟨u, hu, rfl⟩ := List.mem_map.1 ht
    have h3 := trim_len u
    rcases partsR_len sg s false false [] [] u hu with h4 | h4
    · simp at h4
    · simp at h4; omega
  · cases h
theorem splitE_text {s : List UInt8} {l : List (List UInt8)} (h : splitE s = .ok l) : ∀ t ∈ l, t.length ≤ 1000 := by
  unfold splitE at h
  split at h
  · cases h
  · rename_i hs
    split at h
    · cases h
    · rename_i o ho
      split at h
      · cases h
      · injection h with h
        subst h
        intro t ht
        have := cutE_text rfl rfl ho t (List.mem_filter.1 ht).1
        omega
/-- How many texts there are. -/
theorem splitE_ok {s : List UInt8} {l : List (List UInt8)} (h : splitE s = .ok l) : l.length ≤ 20 := by
  unfold splitE at h
  split at h
  · cases h
  · split at h
    · cases h
    · split at h
      · cases h
      · injection h with h; subst h; omega
end Go.Larder

/- Lists of fields without those that a test strikes. No program in sight. -/
namespace Go.Larder
set_option linter.unusedVariables false
set_option linter.unusedSimpArgs false
def hitsN (ns : List (List UInt8)) (f : Fld) : Bool := ns.any fun y => lowL f.1 == y
def ixP (p : Fld → Bool) : Nat → List Fld → Int
  | _, [] => -1
  | k, f :: l => if p f then (k : Int) else ixP p (k + 1) l
def dropP (p : Fld → Bool) (l : List Fld) : List Fld := l.filter fun f => !p f
theorem ixP_ge (p : Fld → Bool) : ∀ (l : List Fld) (k : Nat), ixP p k l = -1 ∨ ∃ m : Nat, ixP p k l = m ∧ k ≤ m ∧ m < k + l.length ∧ (l.take (m - k)).all (fun f => !p f) = true ∧ (∃ f, l[m - k]? = some f ∧ p f = true)
  | [], k => .inl rfl
  | f :: l, k => by
    unfold ixP
    by_cases h : p f = true
    · rw [if_pos h]
      exact .inr ⟨k, rfl, by omega, by simp, by simp, f, by simp, h⟩
    · rw [if_neg h]
      rcases ixP_ge p l (k + 1) with h1 | ⟨m, h1, h2, h3, h4, g, h5, h6⟩
      · exact .inl h1
      · refine .inr ⟨m, h1, by omega, by simp; omega, ?_, g, ?_, h6⟩
        · rw [show m - k = (m - (k + 1)) + 1 from by omega, List.take_succ_cons, List.all_cons, h4]
          simpa using h
        · rw [show m - k = (m - (k + 1)) + 1 from by omega, List.getElem?_cons_succ]
          exact h5
theorem ixP_none {p : Fld → Bool} : ∀ {l : List Fld} {k : Nat}, ixP p k l = -1 → l.all (fun f => !p f) = true
  | [], _, _ => rfl
  | f :: l, k, h => by
    unfold ixP at h
    by_cases h1 : p f = true
    · rw [if_pos h1] at h; omega
    · rw [if_neg h1] at h
      rw [List.all_cons, ixP_none h]
      simpa using h1
theorem dropP_all {p : Fld → Bool} {l : List Fld} (h : l.all (fun f => !p f) = true) : dropP p l = l := by
  unfold dropP
  exact List.filter_eq_self.2 (by simpa using h)
/-- The place of the first of a text in a list of texts. -/
def ixS (x : List UInt8) : Nat → List (List UInt8) → Int
  | _, [] => -1
  | k, y :: l => if x == y then (k : Int) else ixS x (k + 1) l
theorem ixS_any (x : List UInt8) : ∀ (l : List (List UInt8)) (k : Nat), decide (0 ≤ ixS x k l) = l.any (fun y => x == y)
  | [], k => rfl
  | y :: l, k => by
    unfold ixS
    cases h : (x == y)
    · rw [if_neg (by simp), ixS_any x l (k + 1), List.any_cons, h]; simp
    · rw [if_pos rfl, List.any_cons, h]; simp
def connL : List UInt8 := [67, 111, 110, 110, 101, 99, 116, 105, 111, 110]
def hop7 : List (List UInt8) := [[99, 111, 110, 110, 101, 99, 116, 105, 111, 110], [107, 101, 101, 112, 45, 97, 108, 105, 118, 101], [112, 114, 111, 120, 121, 45, 99, 111, 110, 110, 101, 99, 116, 105, 111, 110], [116, 101], [116, 114, 97, 105, 108, 101, 114], [116, 114, 97, 110, 115, 102, 101, 114, 45, 101, 110, 99, 111, 100, 105, 110, 103], [117, 112, 103, 114, 97, 100, 101]]
def partsOf (s : List UInt8) : List (List UInt8) := match splitE s with
  | .error _ => []
  | .ok p => p
def hopsL (l : List Fld) : List (List UInt8) := hop7 ++ (partsOf (Lib.join (valsL (lowL connL) l) sepL)).map lowL
theorem partsOf_err {s : List UInt8} {n : Int} (h : splitE s = .error n) : partsOf s = [] := by unfold partsOf; rw [h]
theorem partsOf_ok {s : List UInt8} {p : List (List UInt8)} (h : splitE s = .ok p) : partsOf s = p := by unfold partsOf; rw [h]
def stripL (l : List Fld) : List Fld := dropP (hitsN (hopsL l)) l
theorem sum_big {l : List Fld} (h : (l.map (fun f => f.1.length + f.2.length + 3)).sum ≤ 1048576) : l.length ≤ 1048576 ∧ ∀ f ∈ l, f.1.length ≤ 1048576 ∧ f.2.length ≤ 1048576 := by
  have h1 : ∀ l : List Fld, l.length ≤ (l.map (fun f => f.1.length + f.2.length + 3)).sum := by
    intro l
    induction l with
    | nil => simp
    | cons f l ih => simp; omega
  have h2 : ∀ l : List Fld, ∀ f ∈ l, f.1.length + f.2.length ≤ (l.map (fun f => f.1.length + f.2.length + 3)).sum := by
    intro l
    induction l with
    | nil => simp
    | cons g l ih =>
      intro f hf
      rcases List.mem_cons.1 hf with rfl | hf
      · simp; omega
      · have := ih f hf; simp; omega
  exact ⟨by have := h1 l; omega, fun f hf => by have := h2 l f hf; omega⟩
theorem join_ok {nm : List UInt8} {l : List Fld} (h : (l.map (fun f => f.1.length + f.2.length + 3)).sum ≤ 1048576) : (Lib.join (valsL nm l) sepL).length ≤ 1048576 := by
  have h1 := join_len_le (valsL nm l)
  have h2 := vals_len_le nm l
  omega
theorem splitE_20 {s : List UInt8} {l : List (List UInt8)} (h : splitE s = .ok l) : l.length ≤ 20 := by
  unfold splitE at h
  split at h
  · cases h
  · split at h
    · cases h
    · split at h
      · cases h
      · injection h with h; subst h; omega
theorem partsOf_len (s : List UInt8) : (partsOf s).length ≤ 20 := by
  unfold partsOf
  split
  · simp
  · rename_i p hp; exact splitE_20 hp
theorem hopsL_len (l : List Fld) : (hopsL l).length ≤ 27 := by
  unfold hopsL
  have := partsOf_len (Lib.join (valsL (lowL connL) l) sepL)
  simp [hop7]; omega
def mets4 : List (List UInt8) := [[80, 85, 84], [80, 79, 83, 84], [68, 69, 76, 69, 84, 69], [80, 65, 84, 67, 72]]
def inval (m : List UInt8) (c : Int) : Bool := (mets4.any fun y => m == y) && decide (200 ≤ c) && decide (c < 400)
end Go.Larder

/- How a body's end is known. No program in sight. -/
namespace Go.Larder
open Go.RowKit
set_option linter.unusedVariables false
set_option linter.unusedSimpArgs false
theorem nmGo_nn : ∀ (l : List UInt8) (n : Int), (∀ x ∈ l, inTab tensTab x = true) → 0 ≤ n → n ≤ nmGo n l
  | [], n, _, h => Int.le_refl _
  | c :: l, n, hd, h => by
    have hc : 48 ≤ c.toNat ∧ c.toNat ≤ 57 := by have := hd c (by simp); rw [tens_eq] at this; exact of_decide_eq_true this
    have := nmGo_nn l (10 * n + (c.toNat - 48)) (fun x hx => hd x (by simp [hx])) (by omega)
    have e : nmGo n (c :: l) = nmGo (10 * n + (c.toNat - 48)) l := by
      rw [nmGo, if_pos (hd c (by simp))]
    rw [e]
    omega
theorem dec_one {n : Nat} (h : n < 10) : Lib.decDigits n = [UInt8.ofNat (48 + n)] := by rw [Lib.decDigits, dif_pos h]
/-- Digits without a leading zero: the text is its number's digits. -/
theorem dec_nm : ∀ (k : Nat) (l : List UInt8), l.length ≤ k → l ≠ [] → (∀ x ∈ l, inTab tensTab x = true) → (1 < l.length → l.head? ≠ some 48) → Lib.decDigits (nm l).toNat = l ∧ 0 ≤ nm l
  | 0, l, hl, hne, _, _ => absurd (List.eq_nil_of_length_eq_zero (Nat.le_zero.1 hl)) hne
  | k + 1, l, hl, hne, hd, hz => by
    rcases nil_or_snoc l with rfl | ⟨m, c, rfl⟩
    · exact absurd rfl hne
    · have hc : inTab tensTab c = true := hd c (by simp)
      have hcd : 48 ≤ c.toNat ∧ c.toNat ≤ 57 := by have := hc; rw [tens_eq] at this; exact of_decide_eq_true this
      have hm : ∀ x ∈ m, inTab tensTab x = true := fun x hx => hd x (by simp [hx])
      have hs : nm (m ++ [c]) = 10 * nm m + (c.toNat - 48) := nmGo_snoc m 0 c hm hc
      have hcc : UInt8.ofNat (48 + (c.toNat - 48)) = c := by
        rw [show 48 + (c.toNat - 48) = c.toNat from by omega]; exact UInt8.ofNat_toNat
      by_cases hme : m = []
      · subst hme
        have h0 : nm ([] : List UInt8) = 0 := rfl
        rw [hs, h0]
        refine ⟨?_, by omega⟩
        rw [show ((10 : Int) * 0 + ((c.toNat : Int) - 48)).toNat = c.toNat - 48 from by omega, dec_one (by omega), hcc]
        rfl
      · have hml : 0 < m.length := List.length_pos_iff.2 hme
        have hhead : m.head? ≠ some 48 := by
          have := hz (by simp; omega)
          rcases m with _ | ⟨a, m⟩
          · exact absurd rfl hme
          · simpa using this
        obtain ⟨ih, ih0⟩ := dec_nm k m (by simp at hl; omega) hme hm (fun _ => hhead)
        have h1 : 1 ≤ nm m := by
          rcases m with _ | ⟨a, m⟩
          · exact absurd rfl hme
          · have ha : 48 ≤ a.toNat ∧ a.toNat ≤ 57 := by have := hm a (by simp); rw [tens_eq] at this; exact of_decide_eq_true this
            have hne48 : a.toNat ≠ 48 := fun h => hhead (by
              have : a = 48 := UInt8.toNat_inj.1 (by show a.toNat = 48; omega)
              simp [this])
            have := nmGo_nn m (a.toNat - 48) (fun x hx => hm x (by simp [hx])) (by omega)
            have e : nm (a :: m) = nmGo (a.toNat - 48) m := by
              unfold nm
              rw [nmGo, if_pos (hm a (by simp))]
              simp
            rw [e]
            omega
        rw [hs]
        refine ⟨?_, by omega⟩
        have hn : (10 * nm m + ((c.toNat : Int) - 48)).toNat = 10 * (nm m).toNat + (c.toNat - 48) := by omega
        rw [hn, dec_step (by omega), show (10 * (nm m).toNat + (c.toNat - 48)) / 10 = (nm m).toNat from by omega, ih, show (10 * (nm m).toNat + (c.toNat - 48)) % 10 = c.toNat - 48 from by omega, hcc]
theorem nm_dig : ∀ (l : List UInt8) (n : Int), 0 ≤ n → 0 ≤ nmGo n l → ∀ x ∈ l, inTab tensTab x = true
  | [], _, _, _ => by simp
  | c :: l, n, hn, h => by
    rw [nmGo] at h
    split at h
    · next hc =>
      have hcd : 48 ≤ c.toNat ∧ c.toNat ≤ 57 := by have := hc; rw [tens_eq] at this; exact of_decide_eq_true this
      intro x hx
      rcases List.mem_cons.1 hx with rfl | hx
      · exact hc
      · exact nm_dig l _ (by omega) h x hx
    · omega
/-- A number of at most four digits, read. -/
theorem cnt_yes {t : List UInt8} (h : 0 ≤ cnt t 9999) : Lib.decDigits (cnt t 9999).toNat = t ∧ cnt t 9999 ≤ 9999 := by
  unfold cnt at *
  split at h
  · omega
  · next hg =>
    rw [if_neg hg]
    split at h
    · omega
    · next hm =>
      rw [if_neg hm]
      simp only [Bool.or_eq_true, Bool.and_eq_true, decide_eq_true_eq, not_or, not_and] at hg
      obtain ⟨⟨h1, h2⟩, h3⟩ := hg
      refine ⟨(dec_nm t.length t (Nat.le_refl _) (by intro e; subst e; simp at h1) (nm_dig t 0 (by omega) h) (fun hl => by have := h3 hl; simpa using this)).1, by omega⟩
theorem dec_len4 {n : Nat} (h : (Lib.decDigits n).length ≤ 4) : n ≤ 9999 := by
  rcases Nat.lt_or_ge 9999 n with hn | hn
  · exfalso
    rw [dec_step (by omega), dec_step (by omega), dec_step (by omega), dec_step (by omega)] at h
    have := List.length_pos_iff.2 (dec_ne (n / 10 / 10 / 10 / 10))
    simp only [List.length_append, List.length_cons, List.length_nil] at h
    omega
  · exact hn
theorem dec_len4' {n : Nat} (h : n ≤ 9999) : (Lib.decDigits n).length ≤ 4 := by
  by_cases h1 : n < 10
  · rw [dec_one h1]; simp
  · rw [dec_step h1]
    by_cases h2 : n / 10 < 10
    · rw [dec_one h2]; simp
    · rw [dec_step h2]
      by_cases h3 : n / 10 / 10 < 10
      · rw [dec_one h3]; simp
      · rw [dec_step h3, dec_one (by omega)]; simp
/-- What a length field says. -/
def sizeL : List (List UInt8) → Int × Int
  | [] => (0, 10)
  | t :: r => if r.all (· == t) && decide (0 ≤ cnt t 9999) then (if 5000 < cnt t 9999 then (0, 2) else (cnt t 9999, 0)) else (0, 10)
def sizeB (v : List UInt8) : Int × Int := match splitE v with
  | .error _ => (0, 10)
  | .ok l => sizeL l
def teN : List UInt8 := [84, 114, 97, 110, 115, 102, 101, 114, 45, 69, 110, 99, 111, 100, 105, 110, 103]
def clN : List UInt8 := [67, 111, 110, 116, 101, 110, 116, 45, 76, 101, 110, 103, 116, 104]
def teL : List UInt8 := [116, 114, 97, 110, 115, 102, 101, 114, 45, 101, 110, 99, 111, 100, 105, 110, 103]
def clL : List UInt8 := [99, 111, 110, 116, 101, 110, 116, 45, 108, 101, 110, 103, 116, 104]
theorem te_low : lowL teN = lowL teL := by decide
theorem cl_low : lowL clN = lowL clL := by decide
def headL : List UInt8 := [72, 69, 65, 68]
def chkL : List UInt8 := [99, 104, 117, 110, 107, 101, 100]
def noBody (req : Bool) (m : List UInt8) (code : Int) : Bool := !req && (m == headL || decide (code < 200) || code == 204 || code == 304)
def kindI (req : Bool) (nb : Bool) (coded sized chk : Bool) (sz : Int × Int) : Int × Int × Int :=
  if nb then (1, 0, 0) else if coded then (if sized || !chk then (0, 0, 10) else (3, 0, 0))
  else if sized then (if sz.2 = 0 then (2, sz.1, 0) else (0, 0, sz.2)) else if req then (1, 0, 0) else (4, 0, 0)
def kindE (req : Bool) (m : List UInt8) (code : Int) (l : List Fld) : Int × Int × Int :=
  kindI req (noBody req m code) (!(valsL (lowL teN) l).isEmpty) (!(valsL (lowL clN) l).isEmpty) (lowL (Lib.join (valsL (lowL teN) l) sepL) == chkL) (sizeB (Lib.join (valsL (lowL clN) l) sepL))
end Go.Larder

/- Numbers written to the base of 16. No program in sight. -/
namespace Go.Larder
set_option linter.unusedSimpArgs false
set_option linter.unusedVariables false
def hxTab : List UInt8 := [48, 49, 50, 51, 52, 53, 54, 55, 56, 57, 97, 98, 99, 100, 101, 102]
def hexd (k : Nat) : UInt8 := hxTab.getD k 0
def hxL (n : Nat) : List UInt8 := if h : n < 16 then [hexd n] else hxL (n / 16) ++ [hexd (n % 16)]
theorem hxL_one {n : Nat} (h : n < 16) : hxL n = [hexd n] := by rw [hxL, dif_pos h]
theorem hxL_step {n : Nat} (h : ¬ n < 16) : hxL n = hxL (n / 16) ++ [hexd (n % 16)] := by rw [hxL, dif_neg h]
theorem hxL_pos (n : Nat) : 1 ≤ (hxL n).length := by
  by_cases h : n < 16
  · rw [hxL_one h]; simp
  · rw [hxL_step h]; simp
theorem hxL_len {n : Nat} (h : n ≤ 5000) : (hxL n).length ≤ 4 := by
  have e : ∀ m : Nat, m < 16 → (hxL m).length = 1 := fun m hm => by rw [hxL_one hm]; rfl
  have s : ∀ m : Nat, ¬ m < 16 → (hxL m).length = (hxL (m / 16)).length + 1 := fun m hm => by rw [hxL_step hm]; simp
  by_cases h1 : n < 16
  · rw [e n h1]; omega
  · rw [s n h1]
    by_cases h2 : n / 16 < 16
    · rw [e _ h2]; omega
    · rw [s _ h2]
      by_cases h3 : n / 16 / 16 < 16
      · rw [e _ h3]; omega
      · rw [s _ h3, e _ (by omega)]; omega
theorem sixteen {P : Nat → Prop} (h0 : P 0) (h1 : P 1) (h2 : P 2) (h3 : P 3) (h4 : P 4) (h5 : P 5) (h6 : P 6) (h7 : P 7) (h8 : P 8) (h9 : P 9) (h10 : P 10) (h11 : P 11) (h12 : P 12) (h13 : P 13) (h14 : P 14) (h15 : P 15) : ∀ k, k < 16 → P k
  | 0, _ => h0 | 1, _ => h1 | 2, _ => h2 | 3, _ => h3 | 4, _ => h4 | 5, _ => h5 | 6, _ => h6 | 7, _ => h7 | 8, _ => h8 | 9, _ => h9 | 10, _ => h10 | 11, _ => h11 | 12, _ => h12 | 13, _ => h13 | 14, _ => h14 | 15, _ => h15
  | n + 16, h => absurd h (by omega)
end Go.Larder

/- A body in chunks. No program in sight. -/
namespace Go.Larder
set_option linter.unusedSimpArgs false
set_option linter.unusedVariables false
def chN (z : Int) (s : List UInt8) : Nat := (min z s.length).toNat
theorem chN_pos {z : Int} {s : List UInt8} (h : ¬ (s = [] ∨ z < 1)) : 1 ≤ chN z s ∧ chN z s ≤ s.length := by
  have : 1 ≤ s.length := by
    cases s with
    | nil => exact absurd (.inl rfl) h
    | cons _ _ => simp
  have hz : ¬ z < 1 := fun h2 => h (.inr h2)
  unfold chN
  omega
def chL (z : Int) (s : List UInt8) : List UInt8 :=
  if h : s = [] ∨ z < 1 then [48, 13, 10, 13, 10] else hxL (chN z s) ++ [13, 10] ++ s.take (chN z s) ++ [13, 10] ++ chL z (s.drop (chN z s))
termination_by s.length
decreasing_by
  have := chN_pos h
  rw [List.length_drop]; omega
def chE (s : List UInt8) (z : Int) : Except Int (List UInt8) := if z < 1 then .error 1 else if 5000 < s.length then .error 2 else .ok (chL z s)
theorem chL_nil (z : Int) : chL z [] = [48, 13, 10, 13, 10] := by rw [chL, dif_pos (.inl rfl)]
theorem chL_step {z : Int} {s : List UInt8} (h : ¬ (s = [] ∨ z < 1)) : chL z s = hxL (chN z s) ++ [13, 10] ++ s.take (chN z s) ++ [13, 10] ++ chL z (s.drop (chN z s)) := by
  rw [chL, dif_neg h]
theorem chL_len (z : Int) : ∀ (f : Nat) (s : List UInt8), s.length < f → s.length ≤ 5000 → (chL z s).length ≤ 9 * s.length + 5
  | 0, s, h, _ => by omega
  | f + 1, s, h, hs => by
    by_cases hc : s = [] ∨ z < 1
    · rw [chL, dif_pos hc]; simp
    · obtain ⟨h1, h2⟩ := chN_pos hc
      rw [chL_step hc]
      have ih := chL_len z f (s.drop (chN z s)) (by rw [List.length_drop]; omega) (by rw [List.length_drop]; omega)
      have hx := hxL_len (n := chN z s) (by omega)
      rw [List.length_drop] at ih
      simp only [List.length_append, List.length_cons, List.length_nil, List.length_take]
      omega
end Go.Larder

/- Fields, printed. No program in sight. -/
namespace Go.Larder
set_option linter.unusedVariables false
set_option linter.unusedSimpArgs false
def prF (f : List UInt8 × List UInt8) : List UInt8 := f.1 ++ [58, 32] ++ f.2 ++ [13, 10]
def prL (l : List (List UInt8 × List UInt8)) : List UInt8 := l.flatMap prF ++ [13, 10]
theorem prF_len (f : List UInt8 × List UInt8) : (prF f).length = f.1.length + f.2.length + 4 := by simp [prF]; omega
theorem prL_len (l : List (List UInt8 × List UInt8)) (h : l.length ≤ 30) (hx : ∀ f ∈ l, f.1.length ≤ 30 ∧ f.2.length ≤ 1000) : (prL l).length ≤ 31022 := by
  have key : ∀ l : List (List UInt8 × List UInt8), (∀ f ∈ l, f.1.length ≤ 30 ∧ f.2.length ≤ 1000) → (l.flatMap prF).length ≤ l.length * 1034 := by
    intro l
    induction l with
    | nil => simp
    | cons a l ih =>
      intro hx
      have h1 := hx a (by simp)
      have h2 := ih (fun f hf => hx f (by simp [hf]))
      rw [List.flatMap_cons, List.length_append, prF_len, List.length_cons]
      omega
  have := key l hx
  simp only [prL, List.length_append, List.length_cons, List.length_nil]
  omega
end Go.Larder

/- Messages, written. No program in sight. -/
namespace Go.Larder
open Go.RowKit
set_option linter.unusedVariables false
set_option linter.unusedSimpArgs false
theorem sizeL_bd (l : List (List UInt8)) : 0 ≤ (sizeL l).1 ∧ (sizeL l).1 ≤ 5000 := by
  cases l with
  | nil => simp [sizeL]
  | cons t r =>
    simp only [sizeL]
    split
    · next h =>
      rw [Bool.and_eq_true] at h
      have h2 := of_decide_eq_true h.2
      split
      · exact ⟨Int.le_refl _, by omega⟩
      · exact ⟨h2, by simp only; omega⟩
    · exact ⟨Int.le_refl _, by omega⟩
theorem sizeB_bd (v : List UInt8) : 0 ≤ (sizeB v).1 ∧ (sizeB v).1 ≤ 5000 := by
  unfold sizeB
  split
  · simp
  · exact sizeL_bd _
/-- A body's kind: none, a length, chunks, to the end; or an error. -/
theorem kindI_cases (req nb coded sized chk : Bool) (sz : Int × Int) (hz : 0 ≤ sz.1 ∧ sz.1 ≤ 5000) :
    (¬ (kindI req nb coded sized chk sz).2.2 = 0) ∨ kindI req nb coded sized chk sz = (1, 0, 0) ∨ (∃ n, 0 ≤ n ∧ n ≤ 5000 ∧ kindI req nb coded sized chk sz = (2, n, 0)) ∨ kindI req nb coded sized chk sz = (3, 0, 0) ∨ kindI req nb coded sized chk sz = (4, 0, 0) := by
  unfold kindI
  by_cases hs : sz.2 = 0
  · cases nb <;> cases coded <;> cases sized <;> cases chk <;> cases req <;> simp [hs] <;> omega
  · cases nb <;> cases coded <;> cases sized <;> cases chk <;> cases req <;> simp [hs]
theorem kindE_cases (req : Bool) (m : List UInt8) (code : Int) (l : List Fld) :
    (¬ (kindE req m code l).2.2 = 0) ∨ kindE req m code l = (1, 0, 0) ∨ (∃ n, 0 ≤ n ∧ n ≤ 5000 ∧ kindE req m code l = (2, n, 0)) ∨ kindE req m code l = (3, 0, 0) ∨ kindE req m code l = (4, 0, 0) :=
  kindI_cases _ _ _ _ _ _ (sizeB_bd _)
/-- A message's text: the fields' error ck, their text hd, the body's kind k. -/
def msgE (ck : Int) (hd : List UInt8) (k : Int × Int × Int) (first text : List UInt8) : Except Int (List UInt8) :=
  if ¬ ck = 0 then .error ck else if ¬ k.2.2 = 0 then .error k.2.2
  else if (k.1 = 1 ∧ ¬ text = []) ∨ (k.1 = 2 ∧ ¬ (text.length : Int) = k.2.1) then .error 10
  else if 2 < k.1 ∧ 5000 < text.length then .error 2
  else .ok (first ++ hd ++ (if k.1 = 3 then chL 64 text else text))
theorem msgE_ck {ck : Int} {hd : List UInt8} {k : Int × Int × Int} {first text : List UInt8} (h : ¬ ck = 0) : msgE ck hd k first text = .error ck := by unfold msgE; rw [if_pos h]
theorem msgE_k {hd : List UInt8} {k : Int × Int × Int} {first text : List UInt8} (h : ¬ k.2.2 = 0) : msgE 0 hd k first text = .error k.2.2 := by unfold msgE; rw [if_neg (by simp), if_pos h]
theorem msgE_1 {hd : List UInt8} {first text : List UInt8} : msgE 0 hd (1, 0, 0) first text = if text = [] then .ok (first ++ hd) else .error 10 := by
  unfold msgE
  by_cases h : text = [] <;> simp [h]
theorem msgE_2 {hd : List UInt8} {n : Int} {first text : List UInt8} : msgE 0 hd (2, n, 0) first text = if (text.length : Int) = n then .ok (first ++ hd ++ text) else .error 10 := by
  unfold msgE
  by_cases h : (text.length : Int) = n <;> simp [h]
theorem msgE_3 {hd : List UInt8} {first text : List UInt8} : msgE 0 hd (3, 0, 0) first text = if 5000 < text.length then .error 2 else .ok (first ++ hd ++ chL 64 text) := by
  unfold msgE
  by_cases h : 5000 < text.length <;> simp [h]
theorem msgE_4 {hd : List UInt8} {first text : List UInt8} : msgE 0 hd (4, 0, 0) first text = if 5000 < text.length then .error 2 else .ok (first ++ hd ++ text) := by
  unfold msgE
  by_cases h : 5000 < text.length <;> simp [h]
end Go.Larder

/- A text cut at a byte. No program in sight. -/
namespace Go.Larder
set_option linter.unusedVariables false
set_option linter.unusedSimpArgs false
def cut1 (c : UInt8) : List UInt8 → List UInt8 × List UInt8 × Bool
  | [] => ([], [], false)
  | b :: l => if b == c then ([], l, true) else (b :: (cut1 c l).1, (cut1 c l).2.1, (cut1 c l).2.2)
theorem cut1_none {c : UInt8} : ∀ {l : List UInt8}, Lib.indexByte l c = -1 → cut1 c l = (l, [], false)
  | [], _ => rfl
  | b :: l, h => by
    unfold Lib.indexByte at h
    unfold cut1
    cases hb : (b == c)
    · rw [hb] at h
      simp only [Bool.false_eq_true, if_false] at h ⊢
      have hi : Lib.indexByte l c = -1 := by
        have := Lib.indexByte_ge l c
        split at h
        · next h1 => simpa using h1
        · omega
      rw [cut1_none hi]
    · rw [hb] at h; simp at h
theorem cut1_at {c : UInt8} : ∀ {l : List UInt8} {k : Nat}, Lib.indexByte l c = (k : Int) → cut1 c l = (l.take k, l.drop (k + 1), true) ∧ k < l.length
  | [], k, h => by simp [Lib.indexByte] at h
  | b :: l, k, h => by
    unfold Lib.indexByte at h
    unfold cut1
    cases hb : (b == c)
    · rw [hb] at h
      simp only [Bool.false_eq_true, if_false] at h ⊢
      split at h
      · omega
      · next h1 =>
        have hge := Lib.indexByte_ge l c
        have hne : Lib.indexByte l c ≠ -1 := by simpa using h1
        obtain ⟨j, rfl⟩ : ∃ j, k = j + 1 := ⟨k - 1, by omega⟩
        obtain ⟨h2, h3⟩ := cut1_at (c := c) (l := l) (k := j) (by omega)
        rw [h2]
        exact ⟨by simp, by simp; omega⟩
    · rw [hb] at h
      simp only [if_true] at h ⊢
      obtain rfl : k = 0 := by omega
      exact ⟨by simp, by simp⟩
theorem ixb_cases (l : List UInt8) (c : UInt8) : Lib.indexByte l c = -1 ∨ ∃ k : Nat, Lib.indexByte l c = k := by
  have := Lib.indexByte_ge l c
  by_cases h : Lib.indexByte l c = -1
  · exact .inl h
  · exact .inr ⟨(Lib.indexByte l c).toNat, by omega⟩
theorem cut1_app {c : UInt8} (r : List UInt8) : ∀ {p : List UInt8}, (∀ x ∈ p, x ≠ c) → cut1 c (p ++ c :: r) = (p, r, true)
  | [], _ => by simp [cut1]
  | b :: p, h => by
    have hb : (b == c) = false := by simpa using h b (by simp)
    have ih := cut1_app (c := c) r (p := p) (fun x hx => h x (by simp [hx]))
    rw [List.cons_append]
    unfold cut1
    rw [hb, ih]
    rfl
theorem cut1_true {c : UInt8} : ∀ {l : List UInt8}, (cut1 c l).2.2 = true → l = (cut1 c l).1 ++ c :: (cut1 c l).2.1 ∧ ∀ x ∈ (cut1 c l).1, x ≠ c
  | [], h => by simp [cut1] at h
  | b :: l, h => by
    unfold cut1 at h ⊢
    cases hb : (b == c)
    · rw [hb] at h
      simp only [Bool.false_eq_true, if_false] at h ⊢
      obtain ⟨h1, h2⟩ := cut1_true h
      refine ⟨by rw [List.cons_append, ← h1], fun x hx => ?_⟩
      rcases List.mem_cons.1 hx with rfl | hx
      · simpa using hb
      · exact h2 x hx
    · simp only [if_true]
      have : b = c := by simpa using hb
      exact ⟨by simp [this], by simp⟩
theorem cut1_false {c : UInt8} : ∀ {l : List UInt8}, (cut1 c l).2.2 = false → cut1 c l = (l, [], false) ∧ ∀ x ∈ l, x ≠ c
  | [], _ => ⟨rfl, by simp⟩
  | b :: l, h => by
    unfold cut1 at h ⊢
    cases hb : (b == c)
    · rw [hb] at h
      simp only [Bool.false_eq_true, if_false] at h ⊢
      obtain ⟨h1, h2⟩ := cut1_false h
      rw [h1]
      refine ⟨rfl, fun x hx => ?_⟩
      rcases List.mem_cons.1 hx with rfl | hx
      · simpa using hb
      · exact h2 x hx
    · rw [hb] at h
      simp at h
theorem cut1_len (c : UInt8) : ∀ l : List UInt8, (cut1 c l).1.length + (cut1 c l).2.1.length ≤ l.length
  | [] => by simp [cut1]
  | b :: l => by
    have ih := cut1_len c l
    unfold cut1
    split <;> simp <;> omega
end Go.Larder

/- A part of a body told: printed, read. No program in sight. -/
namespace Go.Larder
set_option linter.unusedSimpArgs false
set_option linter.unusedVariables false
abbrev dL (n : Int) : List UInt8 := Lib.decDigits n.toNat
def ctOK (a b z : Int) : Bool := decide (0 ≤ a) && decide (a < b) && decide (b ≤ z) && decide (z ≤ 99999)
def ctPre : List UInt8 := [98, 121, 116, 101, 115, 32]
def ctL (a b z : Int) : List UInt8 := ctPre ++ dL a ++ [45] ++ dL (b - 1) ++ [47] ++ dL z
def ctE (a b z : Int) : Except Int (List UInt8) := if ctOK a b z = true then .ok (ctL a b z) else .error 1
theorem ctOK_iff {a b z : Int} : ctOK a b z = true ↔ 0 ≤ a ∧ a < b ∧ b ≤ z ∧ z ≤ 99999 := by unfold ctOK; simp; omega
/-- The text tells the part from a to b of z bytes. -/
def isCt (a b z : Int) (s : List UInt8) : Prop := ctOK a b z = true ∧ ctL a b z = s
theorem dL_not {n : Int} {c : UInt8} (hc : c.toNat < 48 ∨ 57 < c.toNat) : ∀ x ∈ dL n, x ≠ c := fun x hx e => by
  have := dec_all n.toNat x hx
  subst e; omega
theorem ct_len {a b z : Int} (h : ctOK a b z = true) : (ctL a b z).length ≤ 70 := by
  rw [ctOK_iff] at h
  have h1 := dec_len18 (n := a.toNat) (by omega)
  have h2 := dec_len18 (n := (b - 1).toNat) (by omega)
  have h3 := dec_len18 (n := z.toNat) (by omega)
  simp only [ctL, ctPre, List.length_append, List.length_cons, List.length_nil, dL]
  omega
/-- the part's numbers, read off by cuts -/
theorem ct_cuts {a b z : Int} {s : List UInt8} (h : isCt a b z s) : ∃ r, s = ctPre ++ r ∧ cut1 47 r = (dL a ++ 45 :: dL (b - 1), dL z, true) ∧ cut1 45 (dL a ++ 45 :: dL (b - 1)) = (dL a, dL (b - 1), true) := by
  obtain ⟨_, rfl⟩ := h
  refine ⟨(dL a ++ 45 :: dL (b - 1)) ++ 47 :: dL z, by simp [ctL, List.append_assoc], ?_, ?_⟩
  · exact cut1_app _ (fun x hx => by
      rw [List.mem_append, List.mem_cons] at hx
      rcases hx with hx | rfl | hx
      · exact dL_not (by decide) x hx
      · decide
      · exact dL_not (by decide) x hx)
  · exact cut1_app _ (dL_not (by decide))
theorem ct_unique {a b z a' b' z' : Int} {s : List UInt8} (h : isCt a b z s) (h' : isCt a' b' z' s) : a = a' ∧ b = b' ∧ z = z' := by
  obtain ⟨r, e, c1, c2⟩ := ct_cuts h
  obtain ⟨r', e', c1', c2'⟩ := ct_cuts h'
  have hr : r = r' := by rw [e] at e'; exact List.append_cancel_left e'
  subst hr
  rw [c1] at c1'
  injection c1' with q1 q2
  injection q2 with q2 _
  rw [q1] at c2
  rw [c2] at c2'
  injection c2' with q3 q4
  injection q4 with q4 _
  have k1 := ctOK_iff.1 h.1
  have k2 := ctOK_iff.1 h'.1
  have := dec_inj q3
  have := dec_inj q4
  have := dec_inj q2
  omega
end Go.Larder

/- A text split at a byte. No program in sight. -/
namespace Go.Larder
set_option linter.unusedVariables false
set_option linter.unusedSimpArgs false

def spl (c : UInt8) : List UInt8 → List (List UInt8)
  | [] => [[]]
  | b :: l => if b == c then [] :: spl c l else match spl c l with
    | [] => [[b]]
    | p :: ps => (b :: p) :: ps
def jn (c : UInt8) : List (List UInt8) → List UInt8
  | [] => []
  | [p] => p
  | p :: q :: r => p ++ c :: jn c (q :: r)
theorem spl_some (c : UInt8) : ∀ s, ∃ p ps, spl c s = p :: ps
  | [] => ⟨_, _, rfl⟩
  | b :: l => by
    obtain ⟨p, ps, h⟩ := spl_some c l
    unfold spl
    rw [h]
    cases hb : (b == c)
    · exact ⟨b :: p, ps, by simp⟩
    · exact ⟨[], p :: ps, by simp⟩
theorem index_hitc (c : UInt8) (l : List UInt8) : Lib.index (c :: l) [c] = 0 := by
  unfold Lib.index
  simp [List.isPrefixOf]
theorem index_skipc (b c : UInt8) (l : List UInt8) (h : b ≠ c) : Lib.index (b :: l) [c] = if Lib.index l [c] == -1 then -1 else Lib.index l [c] + 1 := by
  conv => lhs; unfold Lib.index
  have : ([c] : List UInt8).isPrefixOf (b :: l) = false := by
    simp [List.isPrefixOf]
    exact fun e => h e.symm
  rw [this]
  rfl
theorem splitK_spl (c : UInt8) : ∀ s : List UInt8, Lib.splitK [c] 0 (s.count c) s = spl c s
  | [] => rfl
  | b :: l => by
    have ih := splitK_spl c l
    cases hb : (b == c)
    · have hbc : b ≠ c := by simpa using hb
      have hcnt : (b :: l).count c = l.count c := List.count_cons_of_ne hbc
      obtain ⟨p, ps, hs⟩ := spl_some c l
      have hspl : spl c (b :: l) = (b :: p) :: ps := by unfold spl; rw [hb, hs]; rfl
      rw [hcnt, hspl]
      rw [hs] at ih
      cases hk : l.count c with
      | zero =>
        rw [hk] at ih
        simp only [Lib.splitK] at ih ⊢
        injection ih with h1 h2
        rw [h1, h2]
      | succ k =>
        rw [hk] at ih
        unfold Lib.splitK at ih ⊢
        rw [index_skipc b c l hbc]
        cases hi : (Lib.index l [c] == -1)
        · rw [hi] at ih
          have hge := Lib.index_ge l [c]
          have hne : Lib.index l [c] ≠ -1 := by simpa using hi
          have e1 : ((Lib.index l [c] + 1 == -1)) = false := by simp; omega
          have e2 : (Lib.index l [c] + 1).toNat = (Lib.index l [c]).toNat + 1 := by omega
          simp only [Bool.false_eq_true, if_false, e1, e2] at ih ⊢
          injection ih with h1 h2
          rw [← h1, ← h2]
          simp [Nat.add_right_comm]
        · rw [hi] at ih
          simp only [if_true] at ih
          injection ih with h1 h2
          subst h1 h2
          simp
    · have hbc : b = c := by simpa using hb
      subst hbc
      have hcnt : (b :: l).count b = l.count b + 1 := List.count_cons_self
      rw [hcnt]
      unfold Lib.splitK
      rw [index_hitc]
      simp [spl, ih]
theorem split_spl (c : UInt8) (s : List UInt8) : Lib.split s [c] = spl c s := by
  unfold Lib.split
  rw [Lib.count_one]
  exact splitK_spl c s
theorem jn_cons (c b : UInt8) (p : List UInt8) (ps : List (List UInt8)) : jn c ((b :: p) :: ps) = b :: jn c (p :: ps) := by
  cases ps <;> simp [jn]
theorem jn_spl (c : UInt8) : ∀ s, jn c (spl c s) = s
  | [] => rfl
  | b :: l => by
    have ih := jn_spl c l
    obtain ⟨p, ps, hs⟩ := spl_some c l
    rw [hs] at ih
    unfold spl
    rw [hs]
    cases hb : (b == c)
    · simp only [Bool.false_eq_true, if_false]
      rw [jn_cons, ih]
    · have hbc : b = c := by simpa using hb
      subst hbc
      simp [jn, ih]
theorem spl_free {c : UInt8} : ∀ {p : List UInt8}, (∀ x ∈ p, x ≠ c) → spl c p = [p]
  | [], _ => rfl
  | b :: p, h => by
    unfold spl
    have hb : (b == c) = false := by simpa using h b (by simp)
    rw [spl_free (fun x hx => h x (by simp [hx])), hb]
    rfl
theorem spl_app {c : UInt8} (s : List UInt8) : ∀ {p : List UInt8}, (∀ x ∈ p, x ≠ c) → spl c (p ++ c :: s) = p :: spl c s
  | [], _ => by simp [spl]
  | b :: p, h => by
    have hb : (b == c) = false := by simpa using h b (by simp)
    have ih := spl_app (c := c) s (p := p) (fun x hx => h x (by simp [hx]))
    rw [List.cons_append]
    conv => lhs; unfold spl
    rw [ih, hb]
    rfl
theorem spl_mem {c : UInt8} : ∀ {s p : List UInt8}, p ∈ spl c s → ∀ x ∈ p, x ≠ c
  | [], p, h, x, hx => by simp [spl] at h; subst h; simp at hx
  | b :: l, p, h, x, hx => by
    obtain ⟨q, qs, hs⟩ := spl_some c l
    unfold spl at h
    rw [hs] at h
    cases hb : (b == c)
    · rw [hb] at h
      simp only [Bool.false_eq_true, if_false] at h
      rcases List.mem_cons.1 h with rfl | h
      · rcases List.mem_cons.1 hx with rfl | hx
        · simpa using hb
        · exact spl_mem (s := l) (by rw [hs]; simp) x hx
      · exact spl_mem (s := l) (by rw [hs]; simp [h]) x hx
    · rw [hb] at h
      simp only [if_true] at h
      rcases List.mem_cons.1 h with rfl | h
      · simp at hx
      · exact spl_mem (s := l) (by rw [hs]; exact h) x hx
theorem spl_jn {c : UInt8} : ∀ {ps : List (List UInt8)}, ps ≠ [] → (∀ p ∈ ps, ∀ x ∈ p, x ≠ c) → spl c (jn c ps) = ps
  | [], h, _ => absurd rfl h
  | [p], _, h => spl_free (h p (by simp))
  | p :: q :: r, _, h => by
    unfold jn
    rw [spl_app _ (h p (by simp)), spl_jn (by simp) (fun y hy => h y (List.mem_cons_of_mem _ hy))]
theorem spl_len (c : UInt8) : ∀ s : List UInt8, (spl c s).length = s.count c + 1
  | [] => rfl
  | b :: l => by
    obtain ⟨p, ps, hs⟩ := spl_some c l
    have ih := spl_len c l
    rw [hs] at ih
    unfold spl
    rw [hs]
    cases hb : (b == c)
    · have hbc : b ≠ c := by simpa using hb
      rw [List.count_cons_of_ne hbc]
      simpa using ih
    · have hbc : b = c := by simpa using hb
      subst hbc
      rw [List.count_cons_self]
      simpa using ih
theorem jn_len (c : UInt8) : ∀ (ps : List (List UInt8)), ∀ p ∈ ps, p.length ≤ (jn c ps).length
  | [], p, h => by simp at h
  | [q], p, h => by simp at h; subst h; simp [jn]
  | q :: r :: ps, p, h => by
    have ih := jn_len c (r :: ps)
    unfold jn
    rcases List.mem_cons.1 h with rfl | h
    · simp
    · have := ih p h
      simp at this ⊢
      omega
theorem spl_mem_len {c : UInt8} {s p : List UInt8} (h : p ∈ spl c s) : p.length ≤ s.length := by
  have := jn_len c (spl c s) p h
  rwa [jn_spl] at this
end Go.Larder

/- Any of some bytes among a text's; plain bytes are ascii. No program in sight. -/
namespace Go.Larder
set_option linter.unusedVariables false
set_option linter.unusedSimpArgs false
theorem cAny_cons (b : UInt8) (l : List UInt8) (chars : List UInt8) : Lib.containsAny (b :: l) chars = (chars.contains b || Lib.containsAny l chars) := by
  unfold Lib.containsAny
  have hge := Lib.indexAny_ge chars l
  conv => lhs; unfold Lib.indexAny
  cases hc : chars.contains b
  · simp only [Bool.false_eq_true, if_false, Bool.false_or]
    cases hi : (Lib.indexAny l chars == -1)
    · have : Lib.indexAny l chars ≠ -1 := by simpa using hi
      rw [Bool.eq_iff_iff]
      simp
      omega
    · have : Lib.indexAny l chars = -1 := by simpa using hi
      rw [this]
      rfl
  · rfl
theorem cAny_any (chars : List UInt8) : ∀ l, Lib.containsAny l chars = l.any chars.contains
  | [] => rfl
  | b :: l => by rw [cAny_cons, cAny_any chars l, List.any_cons]
/-- All bytes are plain and none of them is among chars. -/
theorem all_plain_but {f : UInt8 → Bool} {chars : List UInt8} (hf : ∀ c, f c = (isPl c && !chars.contains c)) (l : List UInt8) : l.all f = (l.all isPl && !Lib.containsAny l chars) := by
  rw [cAny_any]
  induction l with
  | nil => rfl
  | cons a l ih =>
    rw [List.all_cons, List.all_cons, List.any_cons, ih, hf]
    cases isPl a <;> cases chars.contains a <;> simp
theorem plain_asc_nat : ∀ n : Fin 256, isPl (UInt8.ofNat n.val) = true → decide ((UInt8.ofNat n.val).toNat < 128) = true := by decide +kernel
theorem plain_asc {l : List UInt8} (h : l.all isPl = true) : l.all (fun b => decide (b.toNat < 128)) = true := by
  rw [List.all_eq_true] at h ⊢
  intro x hx
  have := plain_asc_nat ⟨x.toNat, x.toNat_lt⟩
  simpa using this (by simpa using h x hx)
end Go.Larder

/- First lines. No program in sight. -/
namespace Go.Larder
set_option linter.unusedVariables false
set_option linter.unusedSimpArgs false

def isTg (c : UInt8) : Bool := decide (33 ≤ (c.toNat : Int)) && decide ((c.toNat : Int) ≤ 126)
def verL : List UInt8 := [72, 84, 84, 80, 47, 49, 46, 49]
def lineE (s : List UInt8) (most : Nat) : Except Int (List UInt8) :=
  if Lib.index s [13, 10] < 0 then (if most + 1 < s.length then .error 2 else .error 8)
  else if (most : Int) < Lib.index s [13, 10] then .error 2 else .ok (s.take (Lib.index s [13, 10]).toNat)
def reqOK (m t : List UInt8) : Bool := isTok m && decide (m.length ≤ 30) && !t.isEmpty && decide (t.length ≤ 200) && t.all isTg
def reqL (m t : List UInt8) : List UInt8 := m ++ [32] ++ t ++ [32] ++ verL ++ [13, 10]
def reqE (m t : List UInt8) : Except Int (List UInt8) := if reqOK m t = true then .ok (reqL m t) else .error 3

theorem line_none {s : List UInt8} (h : Lib.index s [13, 10] = -1) (most : Nat) : lineE s most = if most + 1 < s.length then .error 2 else .error 8 := by
  unfold lineE; rw [h]; rfl
theorem line_at {s : List UInt8} {i : Nat} (h : Lib.index s [13, 10] = (i : Int)) (most : Nat) : lineE s most = if most < i then .error 2 else .ok (s.take i) := by
  unfold lineE
  rw [h, if_neg (by omega)]
  by_cases hi : most < i
  · rw [if_pos (by omega), if_pos hi]
  · rw [if_neg (by omega), if_neg hi]; simp
theorem line_len {s l : List UInt8} {most : Nat} (h : lineE s most = .ok l) : l.length ≤ most ∧ l.length + 2 ≤ s.length := by
  unfold lineE at h
  split at h
  · split at h <;> cases h
  · next h1 =>
    split at h
    · cases h
    · next h2 =>
      injection h with h
      subst h
      have := Lib.index_room s [13, 10] (by omega)
      simp at this
      rw [List.length_take]
      omega
theorem line_err {s : List UInt8} {most : Nat} {n : Int} (h : lineE s most = .error n) : n ≠ 0 := by
  unfold lineE at h
  split at h
  · split at h <;> cases h <;> decide
  · split at h <;> cases h
    decide
theorem index_cases (s sub : List UInt8) : Lib.index s sub = -1 ∨ ∃ i : Nat, Lib.index s sub = i ∧ i + sub.length ≤ s.length := by
  rcases Lib.index_spec s sub with ⟨h, _⟩ | ⟨i, h, _, _, _⟩
  · exact .inl h
  · exact .inr ⟨i, h, by have := Lib.index_room s sub (by omega); omega⟩
theorem cut_none {s sub : List UInt8} (h : Lib.index s sub = -1) : Lib.cut s sub = (s, [], false) := by unfold Lib.cut; rw [h]; rfl
theorem cut_at {s sub : List UInt8} {i : Nat} (h : Lib.index s sub = (i : Int)) : Lib.cut s sub = (s.take i, s.drop (i + sub.length), true) := by
  unfold Lib.cut
  rw [h, if_pos (by omega)]
  simp

/-- The first two words. -/
def w01 (l : List UInt8) : List UInt8 × List UInt8 := match spl 32 l with
  | [] => ([], [])
  | [a] => (a, [])
  | a :: b :: _ => (a, b)
def parseP (s : List UInt8) : Except Int (List UInt8 × List UInt8 × Nat) := match lineE s 300 with
  | .error n => .error n
  | .ok l => match spl 32 l with
    | [a, b, c] => if (c == verL && reqOK a b) = true then .ok (a, b, l.length + 2) else .error 3
    | _ => .error 3
def parseR (s : List UInt8) : Except Int (List UInt8 × List UInt8 × Nat) := match lineE s 300 with
  | .error n => .error n
  | .ok l => if (reqOK (w01 l).1 (w01 l).2 && (reqL (w01 l).1 (w01 l).2 == l ++ [13, 10])) = true then .ok ((w01 l).1, (w01 l).2, l.length + 2) else .error 3
theorem tok_no32 {a : List UInt8} (h : isTok a = true) : ∀ x ∈ a, x ≠ 32 := by
  intro x hx e
  subst e
  unfold isTok at h
  rw [Bool.and_eq_true, List.all_eq_true] at h
  have h1 := h.2 _ hx
  have h2 : tokB 32 = false := by decide +kernel
  rw [h2] at h1
  cases h1
theorem tg_no32 {a : List UInt8} (h : a.all isTg = true) : ∀ x ∈ a, x ≠ 32 := by
  intro x hx e
  subst e
  have h1 := List.all_eq_true.1 h _ hx
  have h2 : isTg 32 = false := by decide +kernel
  rw [h2] at h1
  cases h1
theorem reqOK_parts {m t : List UInt8} (h : reqOK m t = true) : isTok m = true ∧ m.length ≤ 30 ∧ t.isEmpty = false ∧ t.length ≤ 200 ∧ t.all isTg = true := by
  unfold reqOK at h
  simp only [Bool.and_eq_true, decide_eq_true_eq, Bool.not_eq_true'] at h
  exact ⟨h.1.1.1.1, h.1.1.1.2, h.1.1.2, h.1.2, h.2⟩
theorem parse_line (l : List UInt8) : (match spl 32 l with
    | [a, b, c] => if (c == verL && reqOK a b) = true then (Except.ok (a, b, l.length + 2) : Except Int (List UInt8 × List UInt8 × Nat)) else .error 3
    | _ => .error 3) = if (reqOK (w01 l).1 (w01 l).2 && (reqL (w01 l).1 (w01 l).2 == l ++ [13, 10])) = true then .ok ((w01 l).1, (w01 l).2, l.length + 2) else .error 3 := by
  by_cases h : (reqOK (w01 l).1 (w01 l).2 && (reqL (w01 l).1 (w01 l).2 == l ++ [13, 10])) = true
  · rw [if_pos h]
    rw [Bool.and_eq_true, beq_iff_eq] at h
    obtain ⟨h1, h2⟩ := h
    generalize (w01 l).1 = a at h1 h2
    generalize (w01 l).2 = b at h1 h2
    have hp := reqOK_parts h1
    have hl : l = a ++ 32 :: (b ++ 32 :: verL) := by
      have : (a ++ 32 :: (b ++ 32 :: verL)) ++ [13, 10] = l ++ [13, 10] := by rw [← h2]; simp [reqL]
      exact (List.append_cancel_right this).symm
    have hs : spl 32 l = [a, b, verL] := by
      rw [hl, spl_app _ (tok_no32 hp.1), spl_app _ (tg_no32 hp.2.2.2.2), spl_free (by decide)]
    rw [hs]
    simp [h1]
  · rw [if_neg h]
    split
    · next a b c hs =>
      by_cases hc : (c == verL && reqOK a b) = true
      · exfalso
        apply h
        rw [Bool.and_eq_true, beq_iff_eq] at hc
        obtain ⟨hc1, hc2⟩ := hc
        have hw : w01 l = (a, b) := by unfold w01; rw [hs]
        have hj := jn_spl 32 l
        rw [hs, hc1] at hj
        rw [hw]
        simp only
        rw [hc2, ← hj]
        simp [reqL, jn]
      · rw [if_neg hc]
    · rfl
theorem parse_eq (s : List UInt8) : parseP s = parseR s := by
  unfold parseP parseR
  cases lineE s 300 with
  | error n => rfl
  | ok l => exact parse_line l
theorem tg_nat : ∀ n : Fin 256, isTg (UInt8.ofNat n.val) = (isPl (UInt8.ofNat n.val) && !([32, 9] : List UInt8).contains (UInt8.ofNat n.val)) := by decide +kernel
theorem tg_eq (c : UInt8) : isTg c = (isPl c && !([32, 9] : List UInt8).contains c) := by
  have := tg_nat ⟨c.toNat, c.toNat_lt⟩
  simpa using this
theorem all_tg (l : List UInt8) : l.all isTg = (l.all isPl && !Lib.containsAny l [32, 9]) := all_plain_but tg_eq l
end Go.Larder

/- Status lines. No program in sight. -/
namespace Go.Larder
set_option linter.unusedVariables false
set_option linter.unusedSimpArgs false
def statL (c : Int) (r : List UInt8) : List UInt8 := verL ++ 32 :: (Lib.decDigits c.toNat ++ 32 :: r)
def rsnOK (r : List UInt8) : Bool := decide (r.length ≤ 100) && r.all isPl
def statE (c : Int) (r : List UInt8) : Except Int (List UInt8) := if c < 100 ∨ 599 < c then .error 1 else if rsnOK r = true then .ok (statL c r ++ [13, 10]) else .error 3
/-- the line tells this -/
def IsStat (l : List UInt8) (c : Int) (r : List UInt8) : Prop := 100 ≤ c ∧ c ≤ 599 ∧ rsnOK r = true ∧ l = statL c r
theorem statE_is {l : List UInt8} {c : Int} {r : List UInt8} : statE c r = .ok (l ++ [13, 10]) ↔ IsStat l c r := by
  unfold statE IsStat
  by_cases h : c < 100 ∨ 599 < c
  · rw [if_pos h]
    constructor
    · intro h'; cases h'
    · rintro ⟨a, b, _⟩; omega
  · rw [if_neg h]
    by_cases hr : rsnOK r = true
    · rw [if_pos hr]
      constructor
      · intro h'
        injection h' with h'
        exact ⟨by omega, by omega, hr, (List.append_cancel_right h').symm⟩
      · rintro ⟨_, _, _, e⟩
        rw [e]
    · rw [if_neg hr]
      constructor
      · intro h'; cases h'
      · rintro ⟨_, _, a, _⟩; exact absurd a hr
theorem dec3 {n : Nat} (h0 : 100 ≤ n) (h1 : n ≤ 999) : (Lib.decDigits n).length = 3 := by
  rw [dec_step (by omega), dec_step (n := n / 10) (by omega), Lib.decDigits_one (show n / 10 / 10 < 10 by omega)]
  rfl
theorem stat_cut {c : Int} {r : List UInt8} (h0 : 100 ≤ c) (h1 : c ≤ 599) : 13 ≤ (statL c r).length ∧ ((statL c r).drop 9).take 3 = Lib.decDigits c.toNat ∧ (statL c r).drop 13 = r := by
  have hd := dec3 (n := c.toNat) (by omega) (by omega)
  unfold statL
  refine ⟨by simp [verL, hd]; omega, ?_, ?_⟩
  · show (Lib.decDigits c.toNat ++ 32 :: r).take 3 = _
    rw [← hd, List.take_left]
  · show ((Lib.decDigits c.toNat ++ 32 :: r).drop 4) = r
    rw [show 4 = (Lib.decDigits c.toNat).length + 1 from by omega, ← List.drop_drop, List.drop_left]
    rfl
theorem is_one {l : List UInt8} {c c' : Int} {r r' : List UInt8} (h : IsStat l c r) (h' : IsStat l c' r') : c = c' ∧ r = r' := by
  obtain ⟨a1, a2, _, e⟩ := h
  obtain ⟨b1, b2, _, e'⟩ := h'
  have p := stat_cut (r := r) a1 a2
  have q := stat_cut (r := r') b1 b2
  rw [← e] at p
  rw [← e'] at q
  have hd := dec_inj (p.2.1.symm.trans q.2.1)
  exact ⟨by omega, p.2.2.symm.trans q.2.2⟩
noncomputable def stOf (l : List UInt8) : Option (Int × List UInt8) := by
  classical
  exact if h : ∃ p : Int × List UInt8, IsStat l p.1 p.2 then some (Classical.choose h) else none
theorem stOf_yes {l : List UInt8} {c : Int} {r : List UInt8} (h : IsStat l c r) : stOf l = some (c, r) := by
  unfold stOf
  have hx : ∃ p : Int × List UInt8, IsStat l p.1 p.2 := ⟨(c, r), h⟩
  rw [dif_pos hx]
  have := is_one (Classical.choose_spec hx) h
  exact congrArg some (Prod.ext this.1 this.2)
theorem stOf_no {l : List UInt8} (h : ∀ c r, ¬ IsStat l c r) : stOf l = none := by
  unfold stOf
  rw [dif_neg]
  rintro ⟨p, hp⟩
  exact h _ _ hp
noncomputable def stRes (s : List UInt8) : Int × List UInt8 × Int × Int := match lineE s 300 with
  | .error n => (0, [], 0, n)
  | .ok l => match stOf l with
    | none => (0, [], 0, 3)
    | some (c, r) => (c, r, (l.length : Int) + 2, 0)
theorem stRes_err {s : List UInt8} {n : Int} (h : lineE s 300 = .error n) : stRes s = (0, [], 0, n) := by unfold stRes; rw [h]
theorem stRes_no {s l : List UInt8} (h : lineE s 300 = .ok l) (hn : ∀ c r, ¬ IsStat l c r) : stRes s = (0, [], 0, 3) := by unfold stRes; rw [h]; simp only; rw [stOf_no hn]
theorem stRes_yes {s l : List UInt8} {c : Int} {r : List UInt8} (h : lineE s 300 = .ok l) (hn : IsStat l c r) : stRes s = (c, r, (l.length : Int) + 2, 0) := by unfold stRes; rw [h]; simp only; rw [stOf_yes hn]
/-- what the reference tries -/
theorem is_ref {l : List UInt8} {c : Int} {r : List UInt8} (h : IsStat l c r) : 13 ≤ l.length ∧ cnt ((l.drop 9).take 3) 999 = c ∧ l.drop 13 = r := by
  obtain ⟨a1, a2, _, e⟩ := h
  have p := stat_cut (r := r) a1 a2
  rw [← e] at p
  refine ⟨p.1, ?_, p.2.2⟩
  rw [p.2.1, cnt_dec (by omega) (by omega)]
  omega
theorem dec_no32 (n : Nat) : ∀ x ∈ Lib.decDigits n, x ≠ 32 := by
  intro x hx
  have := dec_all n x hx
  rintro rfl
  exact absurd this.1 (by decide)
theorem ver_no32 : ∀ x ∈ verL, x ≠ 32 := by decide
/-- cut at the first two blanks -/
def splK (c : UInt8) : Nat → List UInt8 → List (List UInt8)
  | 0, s => [s]
  | k + 1, s => if Lib.index s [c] == -1 then [s] else s.take (Lib.index s [c]).toNat :: splK c k (s.drop ((Lib.index s [c]).toNat + 1))
theorem splitN3 (s : List UInt8) (c : UInt8) (h : 2 ≤ s.length) : Lib.splitN s [c] 3 = splK c 2 s := by
  unfold Lib.splitN
  rw [show min 3 (s.length + 1) - 1 = 2 from by omega]
  simp only [Lib.splitK, splK, Nat.add_zero, List.length_singleton]
theorem index_free {c : UInt8} : ∀ {p : List UInt8} (r : List UInt8), (∀ x ∈ p, x ≠ c) → Lib.index (p ++ c :: r) [c] = p.length
  | [], r, _ => by rw [List.nil_append, index_hitc]; rfl
  | b :: p, r, h => by
    rw [List.cons_append, index_skipc b c _ (h b (by simp)), index_free r (fun x hx => h x (by simp [hx]))]
    rw [if_neg (by simp)]
    simp
theorem splK_step {c : UInt8} {p : List UInt8} (r : List UInt8) (k : Nat) (h : ∀ x ∈ p, x ≠ c) : splK c (k + 1) (p ++ c :: r) = p :: splK c k r := by
  rw [splK, index_free r h, if_neg (by simp)]
  simp
theorem splK_stat (c : Int) (r : List UInt8) : splK 32 2 (statL c r) = [verL, Lib.decDigits c.toNat, r] := by
  unfold statL
  rw [splK_step _ _ ver_no32, splK_step _ _ (dec_no32 _)]
  rfl
theorem splitK_mem (c : UInt8) : ∀ (k : Nat) (s : List UInt8), ∀ p ∈ Lib.splitK [c] 0 k s, p.length ≤ s.length
  | 0, s, p, h => by simp [Lib.splitK] at h; rw [h]; exact Nat.le_refl _
  | k + 1, s, p, h => by
    rw [Lib.splitK] at h
    split at h
    · simp at h; rw [h]; exact Nat.le_refl _
    · rcases List.mem_cons.1 h with h | h
      · rw [h, List.length_take]; omega
      · have := splitK_mem c k _ p h
        rw [List.length_drop] at this; omega
theorem stat_words {l : List UInt8} {c : Int} {r : List UInt8} (h : IsStat l c r) : Lib.splitN l [32] 3 = [verL, Lib.decDigits c.toNat, r] := by
  have := (is_ref h).1
  rw [splitN3 _ _ (by omega), h.2.2.2, splK_stat]
theorem no_of_len {l : List UInt8} (h : (Lib.splitN l [32] 3).length ≠ 3) : ∀ c r, ¬ IsStat l c r := by
  intro c r h'
  rw [stat_words h'] at h
  exact h rfl
theorem no_of_atoi {l a b d : List UInt8} (h : Lib.splitN l [32] 3 = [a, b, d]) (hv : ∀ u, Lib.atoiAll b ≠ .ok u) : ∀ c r, ¬ IsStat l c r := by
  intro c r h'
  have e := stat_words h'
  rw [h] at e
  simp only [List.cons.injEq, and_true] at e
  have := atoiAll_dec (n := c.toNat) (by have := h'.2.1; omega)
  exact hv _ (by rw [e.2.1]; exact this)
theorem no_of_print {l a b d : List UInt8} {v : Int} (h : Lib.splitN l [32] 3 = [a, b, d]) (hv : Lib.atoiAll b = .ok v) (hp : statE v d ≠ .ok (l ++ [13, 10])) : ∀ c r, ¬ IsStat l c r := by
  intro c r h'
  have e := stat_words h'
  rw [h] at e
  simp only [List.cons.injEq, and_true] at e
  have ha := atoiAll_dec (n := c.toNat) (by have := h'.2.1; omega)
  rw [← e.2.1, hv] at ha
  injection ha with ha
  refine hp (statE_is.2 ?_)
  rw [e.2.2, ha, show ((c.toNat : Nat) : Int) = c from by have := h'.1; omega]
  exact h'
theorem statE_err {c : Int} {r : List UInt8} {n : Int} (h : statE c r = .error n) : n ≠ 0 := by
  unfold statE at h
  split at h
  · injection h with h; omega
  · split at h
    · cases h
    · injection h with h; omega
theorem statE_len {c : Int} {r t : List UInt8} (h : statE c r = .ok t) : t.length ≤ 200 := by
  unfold statE at h
  split at h
  · cases h
  · next h1 =>
    split at h
    · next h2 =>
      injection h with h
      have hd := dec3 (n := c.toNat) (by omega) (by omega)
      unfold rsnOK at h2
      simp only [Bool.and_eq_true, decide_eq_true_eq] at h2
      rw [← h]
      simp [statL, verL, hd]
      omega
    · cases h
theorem short_no {l : List UInt8} (h : l.length < 13) : ∀ c r, ¬ IsStat l c r := by
  intro c r h'
  have := (is_ref h').1
  omega
theorem all_filter9 (l : List UInt8) : ((l.flatMap fun x => if x = 9 then [] else [x]).all fun c => decide ((32 : Int) ≤ c.toNat) && decide ((c.toNat : Int) ≤ 126)) = l.all isPl := by
  induction l with
  | nil => rfl
  | cons a l ih =>
    rw [List.flatMap_cons, List.all_append, ih, List.all_cons]
    congr 1
    unfold isPl
    by_cases h : a = 9
    · subst h; rfl
    · rw [if_neg h]
      have : ((a.toNat : Int) == 9) = false := by
        rw [beq_eq_false_iff_ne]
        intro h9
        exact h (UInt8.toNat_inj.1 (by show a.toNat = 9; omega))
      simp [this]
end Go.Larder

/- Quoted texts; ReplaceAll of one byte. No program in sight. -/
namespace Go.Larder
open Go.Lib
set_option linter.unusedVariables false
set_option linter.unusedSimpArgs false
theorem repK (c : UInt8) (new : List UInt8) : ∀ (n : Nat) (s : List UInt8), s.length ≤ n → replaceK [c] new (count s [c]) s = s.flatMap fun x => if x = c then new else [x]
  | n, s, hn => by
    by_cases hm : index s [c] = -1
    · rw [count_miss hm]
      unfold replaceK
      rw [index_one] at hm
      have hno := indexByte_none hm
      have : ∀ l : List UInt8, (∀ k : Nat, l[k]? ≠ some c) → l.flatMap (fun x => if x = c then new else [x]) = l := by
        intro l
        induction l with
        | nil => intro _; rfl
        | cons a l ih =>
          intro h
          have ha : a ≠ c := fun e => h 0 (by simp [e])
          rw [List.flatMap_cons, if_neg ha, ih (fun k => by have := h (k + 1); simpa using this)]
          rfl
      exact (this s hno).symm
    · have hge := index_ge s [c]
      obtain ⟨i, hi⟩ : ∃ i : Nat, index s [c] = i := ⟨(index s [c]).toNat, by omega⟩
      have hc := count_hit (sub := [c]) (by simp) hi
      rw [hc, Nat.add_comm, replaceK_hit [c] new _ s i hi]
      rw [index_one] at hi
      obtain ⟨h1, h2⟩ := indexByte_some hi
      have hil : i < s.length := (List.getElem?_eq_some_iff.1 h1).1
      have hsplit : s = s.take i ++ c :: s.drop (i + 1) := by
        have h8 := List.drop_eq_getElem_cons hil
        rw [(List.getElem?_eq_some_iff.1 h1).2] at h8
        rw [← h8, List.take_append_drop]
      have htk : (s.take i).flatMap (fun x => if x = c then new else [x]) = s.take i := by
        have : ∀ l : List UInt8, (∀ x ∈ l, x ≠ c) → l.flatMap (fun x => if x = c then new else [x]) = l := by
          intro l
          induction l with
          | nil => intro _; rfl
          | cons a l ih =>
            intro h
            rw [List.flatMap_cons, if_neg (h a (by simp)), ih (fun x hx => h x (by simp [hx]))]
            rfl
        refine this _ fun x hx e => ?_
        subst e
        obtain ⟨k, hk⟩ := List.getElem?_of_mem hx
        have hki : k < i := by
          have := (List.getElem?_eq_some_iff.1 hk).1
          rw [List.length_take] at this
          omega
        rw [List.getElem?_take_of_lt hki] at hk
        exact h2 k hki hk
      have ih := repK c new (n - 1) (s.drop (i + 1)) (by rw [List.length_drop]; omega)
      have hl1 : i + [c].length = i + 1 := rfl
      rw [hl1, ih]
      conv => rhs; rw [hsplit]
      rw [List.flatMap_append, htk, List.flatMap_cons, if_pos rfl, List.append_assoc]
  termination_by n s _ => s.length
theorem repl_one (c : UInt8) (new s : List UInt8) (h : ([c] == new) = false) : replaceAll s [c] new = s.flatMap fun x => if x = c then new else [x] := by
  unfold replaceAll replace
  rw [if_neg (by simp [h])]
  unfold replaceNum
  rw [if_pos (.inl (by decide))]
  exact repK c new s.length s (Nat.le_refl _)
def quoC (c : UInt8) : List UInt8 := if c = 34 ∨ c = 92 then [92, c] else [c]
def quoL (s : List UInt8) : List UInt8 := s.flatMap quoC
theorem quo_rep (s : List UInt8) : replaceAll (replaceAll s [92] [92, 92]) [34] [92, 34] = quoL s := by
  rw [repl_one _ _ _ (by decide), repl_one _ _ _ (by decide)]
  unfold quoL
  induction s with
  | nil => rfl
  | cons a s ih =>
    rw [List.flatMap_cons, List.flatMap_append, ih, List.flatMap_cons]
    congr 1
    unfold quoC
    by_cases h1 : a = 92
    · subst h1; decide
    · by_cases h2 : a = 34
      · subst h2; decide
      · simp [h1, h2]
theorem quoL_len : ∀ s : List UInt8, (quoL s).length ≤ 2 * s.length
  | [] => by simp [quoL]
  | c :: s => by
    have := quoL_len s
    unfold quoL quoC at *
    rw [List.flatMap_cons, List.length_append]
    split <;> simp at * <;> omega
theorem quoL_snoc {l : List UInt8} {k : Nat} {c : UInt8} (h : l[k]? = some c) : quoL (l.take (k + 1)) = quoL (l.take k) ++ quoC c := by
  rw [List.take_add_one, h]; simp [quoL]
def quoE (s : List UInt8) : Except Int (List UInt8) := if 1000 < s.length then .error 2 else if s.all isPl then .ok (34 :: (quoL s ++ [34])) else .error 3
end Go.Larder

/- Fields, parsed. No program in sight. -/
namespace Go.Larder
set_option linter.unusedVariables false
set_option linter.unusedSimpArgs false
theorem trim_lenF (l : List UInt8) : (trim l).length ≤ l.length := by
  unfold trim trimR
  rw [List.length_reverse]
  have h1 := (List.dropWhile_sublist isB (l := (l.dropWhile isB).reverse)).length_le
  have h2 := (List.dropWhile_sublist isB (l := l)).length_le
  rw [List.length_reverse] at h1
  omega
def chkF (n v : List UInt8) : Int :=
  if isTok n then (if 30 < n.length ∨ 1000 < v.length then 2 else if trim v = v ∧ v.all isPl = true then 0 else 3) else 3
def fpGo : Nat → List UInt8 → Nat → List (List UInt8 × List UInt8) → Except Int (List (List UInt8 × List UInt8) × Nat)
  | 0, _, _, _ => .error 0
  | n + 1, rest, k, out => match lineE rest 1100 with
    | .error e => .error e
    | .ok l => if l.isEmpty then .ok (out, k + 2) else if out.length = 30 then .error 2 else
      if ((cut1 58 l).2.2 && isTok (cut1 58 l).1) = true then
        (if chkF (cut1 58 l).1 (trim (cut1 58 l).2.1) = 0 then fpGo n (rest.drop (l.length + 2)) (k + l.length + 2) (out ++ [((cut1 58 l).1, trim (cut1 58 l).2.1)]) else .error (chkF (cut1 58 l).1 (trim (cut1 58 l).2.1)))
      else .error 3
def fpE (s : List UInt8) : Except Int (List (List UInt8 × List UInt8) × Nat) := fpGo (s.length + 1) s 0 []
section
variable {m k : Nat} {rest l : List UInt8} {out : List (List UInt8 × List UInt8)}
theorem fp_err {e : Int} (h : lineE rest 1100 = .error e) : fpGo (m + 1) rest k out = .error e := by
  unfold fpGo; rw [h]
theorem fp_end (h : lineE rest 1100 = .ok []) : fpGo (m + 1) rest k out = .ok (out, k + 2) := by
  unfold fpGo; rw [h]; rfl
theorem fp_full (h : lineE rest 1100 = .ok l) (hl : l.isEmpty = false) (ho : out.length = 30) : fpGo (m + 1) rest k out = .error 2 := by
  unfold fpGo; rw [h]; simp only; rw [hl, if_neg (by simp), if_pos ho]
theorem fp_syn (h : lineE rest 1100 = .ok l) (hl : l.isEmpty = false) (ho : out.length ≠ 30) (hc : ((cut1 58 l).2.2 && isTok (cut1 58 l).1) = false) : fpGo (m + 1) rest k out = .error 3 := by
  unfold fpGo; rw [h]; simp only; rw [hl, if_neg (by simp), if_neg ho, hc]; rfl
theorem fp_chk (h : lineE rest 1100 = .ok l) (hl : l.isEmpty = false) (ho : out.length ≠ 30) (hc : ((cut1 58 l).2.2 && isTok (cut1 58 l).1) = true) (hk : ¬ chkF (cut1 58 l).1 (trim (cut1 58 l).2.1) = 0) :
    fpGo (m + 1) rest k out = .error (chkF (cut1 58 l).1 (trim (cut1 58 l).2.1)) := by
  rw [fpGo]
  simp only [h, hl, Bool.false_eq_true, if_false, if_neg ho, hc, if_true, if_neg hk]
theorem fp_step (h : lineE rest 1100 = .ok l) (hl : l.isEmpty = false) (ho : out.length ≠ 30) (hc : ((cut1 58 l).2.2 && isTok (cut1 58 l).1) = true) (hk : chkF (cut1 58 l).1 (trim (cut1 58 l).2.1) = 0) :
    fpGo (m + 1) rest k out = fpGo m (rest.drop (l.length + 2)) (k + l.length + 2) (out ++ [((cut1 58 l).1, trim (cut1 58 l).2.1)]) := by
  conv => lhs; rw [fpGo]
  simp only [h, hl, Bool.false_eq_true, if_false, if_neg ho, hc, if_true, if_pos hk]
end
end Go.Larder

/- A body in chunks, read as it comes. No program in sight. -/
namespace Go.Larder
open Go.RowKit
set_option linter.unusedVariables false
set_option linter.unusedSimpArgs false
/-- how many bytes ahead, at most m, are p's -/
def tw (p : UInt8 → Bool) : Nat → List UInt8 → Nat
  | 0, _ => 0
  | _ + 1, [] => 0
  | m + 1, c :: r => if p c = true then tw p m r + 1 else 0
theorem tw_le (p : UInt8 → Bool) : ∀ (m : Nat) (r : List UInt8), tw p m r ≤ r.length ∧ tw p m r ≤ m
  | 0, r => by simp [tw]
  | m + 1, [] => by simp [tw]
  | m + 1, c :: r => by
    have := tw_le p m r
    simp only [tw, List.length_cons]
    split <;> omega
theorem tw_app {p : UInt8 → Bool} : ∀ {m : Nat} {r : List UInt8} (x : List UInt8), tw p m r < r.length → tw p m (r ++ x) = tw p m r
  | 0, r, x, _ => by simp [tw]
  | m + 1, [], x, h => by simp at h
  | m + 1, c :: r, x, h => by
    simp only [tw, List.cons_append, List.length_cons] at h ⊢
    by_cases hc : p c = true
    · rw [if_pos hc] at h
      rw [if_pos hc, if_pos hc, tw_app x (by omega)]
    · rw [if_neg hc, if_neg hc]
theorem tw_go {p : UInt8 → Bool} {m : Nat} {c : UInt8} {r : List UInt8} (h : p c = true) : tw p (m + 1) (c :: r) = tw p m r + 1 := by simp [tw, h]
theorem tw_stop {p : UInt8 → Bool} {m : Nat} {c : UInt8} {r : List UInt8} (h : p c = false) : tw p (m + 1) (c :: r) = 0 := by simp [tw, h]
/-- a hex digit; its value -/
def isHx (c : UInt8) : Bool := (decide (48 ≤ c.toNat) && decide (c.toNat ≤ 57)) || (decide (97 ≤ c.toNat) && decide (c.toNat ≤ 102)) || (decide (65 ≤ c.toNat) && decide (c.toNat ≤ 70))
def hxv (c : UInt8) : Nat := if c.toNat ≤ 57 then c.toNat - 48 else if c.toNat ≤ 70 then c.toNat - 55 else c.toNat - 87
def hxN (l : List UInt8) : Nat := l.foldl (fun a c => 16 * a + hxv c) 0
theorem hxv_lt {c : UInt8} (h : isHx c = true) : hxv c < 16 := by
  unfold isHx at h; unfold hxv
  simp at h
  split
  · omega
  · split <;> omega
/-- the hex digits ahead; behind them, where an extension ends -/
def hk (r : List UInt8) : Nat := tw isHx 4 r
def he (r : List UInt8) : Nat := if (r.drop (hk r)).head? = some 59 then hk r + 1 + tw isPl 50 (r.drop (hk r + 1)) else hk r
/-- A chunk's head: its number, and how many bytes it has. -/
def headS (r : List UInt8) : Except Int (Nat × Nat) :=
  if r = [] then .error 8 else if hk r = 0 then .error 3 else if r.drop (he r) = [] ∨ r.drop (he r) = [13] then .error 8
  else if (r.drop (he r)).take 2 = [13, 10] then .ok (hxN (r.take (hk r)), he r + 2) else .error 3
theorem he_le (r : List UInt8) : he r ≤ r.length := by
  unfold he
  split
  · next h =>
    have h1 := (tw_le isPl 50 (r.drop (hk r + 1))).1
    have h2 : hk r < r.length := by
      rcases Nat.lt_or_ge (hk r) r.length with h3 | h3
      · exact h3
      · rw [List.drop_eq_nil_of_le h3] at h; cases h
    rw [List.length_drop] at h1
    omega
  · exact (tw_le isHx 4 r).1
theorem hk_le (r : List UInt8) : hk r ≤ he r := by unfold he; split <;> omega
theorem hk4 (r : List UInt8) : hk r ≤ 4 := (tw_le isHx 4 r).2
theorem head_ok {r : List UInt8} {n k : Nat} (h : headS r = .ok (n, k)) : 0 < hk r ∧ (r.drop (he r)).take 2 = [13, 10] ∧ n = hxN (r.take (hk r)) ∧ k = he r + 2 ∧ k ≤ r.length := by
  unfold headS at h
  split at h
  · cases h
  · split at h
    · cases h
    · next h0 =>
      split at h
      · cases h
      · split at h
        · next h1 =>
          injection h with h
          injection h with e1 e2
          have := congrArg List.length h1
          rw [List.length_take, List.length_drop] at this
          simp at this
          exact ⟨by omega, h1, e1.symm, e2.symm, by omega⟩
        · cases h
theorem hxN_lt : ∀ (l : List UInt8) (a b : Nat), (∀ c ∈ l, isHx c = true) → a < b → l.foldl (fun a c => 16 * a + hxv c) a < b * 16 ^ l.length
  | [], a, b, _, h => by simpa using h
  | c :: l, a, b, hd, h => by
    have hc := hxv_lt (hd c (by simp))
    have := hxN_lt l (16 * a + hxv c) (b * 16) (fun x hx => hd x (by simp [hx])) (by omega)
    simp only [List.foldl_cons, List.length_cons]
    rw [Nat.pow_succ, Nat.mul_comm (16 ^ l.length) 16, ← Nat.mul_assoc]
    exact this
theorem tw_all {p : UInt8 → Bool} : ∀ {m : Nat} {r : List UInt8}, ∀ c ∈ r.take (tw p m r), p c = true
  | 0, r, c, h => by simp [tw] at h
  | m + 1, [], c, h => by simp [tw] at h
  | m + 1, a :: r, c, h => by
    by_cases ha : p a = true
    · rw [tw_go ha, List.take_succ_cons] at h
      rcases List.mem_cons.1 h with rfl | h
      · exact ha
      · exact tw_all c h
    · rw [tw_stop (by simpa using ha)] at h; simp at h
theorem hx_bd (r : List UInt8) : hxN (r.take (hk r)) ≤ 65535 := by
  have h1 := hxN_lt (r.take (hk r)) 0 1 (fun c hc => tw_all c hc) (by omega)
  have h2 : (r.take (hk r)).length ≤ 4 := by have := hk4 r; rw [List.length_take]; omega
  have h3 : 16 ^ (r.take (hk r)).length ≤ 16 ^ 4 := Nat.pow_le_pow_right (by omega) h2
  unfold hxN
  omega
theorem head_mono {r : List UInt8} {n k : Nat} (h : headS r = .ok (n, k)) (x : List UInt8) : headS (r ++ x) = .ok (n, k) := by
  obtain ⟨h0, h1, hn, hk2, hle⟩ := head_ok h
  have hek := hk_le r
  have e1 : hk (r ++ x) = hk r := tw_app x (by unfold hk at hek; omega)
  have e0 : (r ++ x).drop (hk r) = r.drop (hk r) ++ x := List.drop_append_of_le_length (by omega)
  have e2 : he (r ++ x) = he r := by
    unfold he
    rw [e1, e0]
    have hne : r.drop (hk r) ≠ [] := fun hh => by
      have := List.drop_eq_nil_iff.1 hh; omega
    have hh : (r.drop (hk r) ++ x).head? = (r.drop (hk r)).head? := by
      cases hq : r.drop (hk r) with
      | nil => exact absurd hq hne
      | cons a b => rfl
    rw [hh]
    by_cases h59 : (r.drop (hk r)).head? = some 59
    · rw [if_pos h59, if_pos h59]
      have hl : he r = hk r + 1 + tw isPl 50 (r.drop (hk r + 1)) := by unfold he; rw [if_pos h59]
      rw [List.drop_append_of_le_length (by omega), tw_app x (by rw [List.length_drop]; omega)]
    · rw [if_neg h59, if_neg h59]
  have e3 : (r ++ x).drop (he r) = r.drop (he r) ++ x := List.drop_append_of_le_length (by omega)
  have h2l : 2 ≤ (r.drop (he r)).length := by rw [List.length_drop]; omega
  have e4 : ((r ++ x).drop (he r)).take 2 = [13, 10] := by rw [e3, List.take_append_of_le_length h2l, h1]
  unfold headS
  rw [e1, e2]
  have n1 : ¬ (r ++ x) = [] := fun hh => by have := congrArg List.length (List.append_eq_nil_iff.1 hh).1; simp only [List.length_nil] at this; omega
  have n2 : ¬ ((r ++ x).drop (he r) = [] ∨ (r ++ x).drop (he r) = [13]) := fun hh => by rcases hh with hh | hh <;> rw [hh] at e4 <;> simp at e4
  rw [if_neg n1, if_neg (show ¬ hk r = 0 by omega), if_neg n2, if_pos e4, List.take_append_of_le_length (show hk r ≤ r.length by omega), ← hn, ← hk2]
/-- What is read next: a head, data of so many bytes, the trailer. -/
inductive Stg where
  | hd | dt (n : Nat) | tr
inductive Stp where
  | short | err (e : Int) | go (s : Stg) (out r : List UInt8) | fin (r : List UInt8)
def stepS (s : Stg) (out r : List UInt8) : Stp := match s with
  | .hd => match headS r with
    | .error e => if e = 8 then .short else .err e
    | .ok (n, k) => if 5000 < out.length + n then .err 2 else .go (if n = 0 then .tr else .dt n) out (r.drop k)
  | .dt n => if r.length ≤ n then .short else if r.drop n = [13] then .short else if (r.drop n).take 2 = [13, 10] then .go .hd (out ++ r.take n) (r.drop (n + 2)) else .err 3
  | .tr => match fpE r with
    | .error e => if e = 8 then .short else .err e
    | .ok (_, k) => .fin (r.drop k)
theorem step_shrinks {s s' : Stg} {out out' r r' : List UInt8} (h : stepS s out r = .go s' out' r') : r'.length < r.length := by
  unfold stepS at h
  cases s with
  | hd =>
    simp only at h
    cases hq : headS r with
    | error e => simp only [hq] at h; split at h <;> cases h
    | ok p =>
      obtain ⟨n, k⟩ := p
      obtain ⟨h0, _, _, hk2, hle⟩ := head_ok hq
      simp only [hq] at h
      split at h
      · cases h
      · injection h with _ _ h; subst h; rw [List.length_drop]; omega
  | dt n =>
    simp only at h
    split at h
    · cases h
    · split at h
      · cases h
      · split at h
        · injection h with _ _ h; subst h; rw [List.length_drop]; omega
        · cases h
  | tr =>
    simp only at h
    cases hq : fpE r with
    | error e => simp only [hq] at h; split at h <;> cases h
    | ok p => obtain ⟨a, k⟩ := p; simp only [hq] at h; cases h
theorem step_mono {s s' : Stg} {out out' r r' : List UInt8} (h : stepS s out r = .go s' out' r') (x : List UInt8) : stepS s out (r ++ x) = .go s' out' (r' ++ x) := by
  unfold stepS at h ⊢
  cases s with
  | hd =>
    simp only at h ⊢
    cases hq : headS r with
    | error e => simp only [hq] at h; split at h <;> cases h
    | ok p =>
      obtain ⟨n, k⟩ := p
      have hle := (head_ok hq).2.2.2.2
      rw [head_mono hq x]
      simp only [hq] at h ⊢
      split at h
      · cases h
      · next h5 =>
        rw [if_neg h5]
        injection h with e1 e2 e3
        rw [e1, e2, ← e3, List.drop_append_of_le_length hle]
  | dt n =>
    simp only at h ⊢
    split at h
    · cases h
    · next h1 =>
      split at h
      · cases h
      · split at h
        · next h3 =>
          injection h with e1 e2 e3
          have h2l : 2 ≤ (r.drop n).length := by
            have := congrArg List.length h3
            rw [List.length_take] at this
            simp at this ⊢
            omega
          have h2l' : n + 2 ≤ r.length := by rw [List.length_drop] at h2l; omega
          have e0 : (r ++ x).drop n = r.drop n ++ x := List.drop_append_of_le_length (by omega)
          have e4 : ((r ++ x).drop n).take 2 = [13, 10] := by rw [e0, List.take_append_of_le_length h2l, h3]
          have n2 : ¬ (r ++ x).drop n = [13] := fun hh => by rw [hh] at e4; simp at e4
          rw [if_neg (by rw [List.length_append]; omega), if_neg n2, if_pos e4, List.take_append_of_le_length (by omega), List.drop_append_of_le_length h2l', e1, e2, e3]
        · cases h
  | tr =>
    simp only at h
    cases hq : fpE r with
    | error e => simp only [hq] at h; split at h <;> cases h
    | ok p => obtain ⟨a, k⟩ := p; simp only [hq] at h; cases h
/-- How a text is read to where it stops. -/
inductive Rd where
  | short (s : Stg) (out r : List UInt8) | err (e : Int) | fin (out r : List UInt8)
def rdS (s : Stg) (out r : List UInt8) : Rd := match h : stepS s out r with
  | .short => .short s out r
  | .err e => .err e
  | .fin r' => .fin out r'
  | .go s' out' r' => rdS s' out' r'
termination_by r.length
decreasing_by exact step_shrinks h
theorem rd_short {s : Stg} {out r : List UInt8} (h : stepS s out r = .short) : rdS s out r = .short s out r := by
  rw [rdS]; split <;> next h' => first | (rw [h] at h'; done) | (rw [h] at h'; cases h'; done) | (rw [h] at h'; cases h'; rfl)
theorem rd_err {s : Stg} {out r : List UInt8} {e : Int} (h : stepS s out r = .err e) : rdS s out r = .err e := by
  rw [rdS]; split <;> next h' => first | (rw [h] at h'; done) | (rw [h] at h'; cases h'; done) | (rw [h] at h'; cases h'; rfl)
theorem rd_fin {s : Stg} {out r r' : List UInt8} (h : stepS s out r = .fin r') : rdS s out r = .fin out r' := by
  rw [rdS]; split <;> next h' => first | (rw [h] at h'; done) | (rw [h] at h'; cases h'; done) | (rw [h] at h'; cases h'; rfl)
theorem rd_go {s s' : Stg} {out out' r r' : List UInt8} (h : stepS s out r = .go s' out' r') : rdS s out r = rdS s' out' r' := by
  rw [rdS]; split <;> next h' => first | (rw [h] at h'; done) | (rw [h] at h'; cases h'; done) | (rw [h] at h'; cases h'; rfl)
/-- What comes behind is read on from where it stopped. -/
theorem rd_mono : ∀ (k : Nat) {s s' : Stg} {out out' r r' : List UInt8}, r.length < k → rdS s out r = .short s' out' r' → ∀ x, rdS s out (r ++ x) = rdS s' out' (r' ++ x)
  | 0, _, _, _, _, _, _, h, _ => absurd h (Nat.not_lt_zero _)
  | k + 1, s, s', out, out', r, r', hk, h => fun x => by
    cases hq : stepS s out r with
    | short => rw [rd_short hq] at h; injection h with e1 e2 e3; rw [e1, e2, e3]
    | err e => rw [rd_err hq] at h; cases h
    | fin r2 => rw [rd_fin hq] at h; cases h
    | go s2 out2 r2 =>
      rw [rd_go hq] at h
      rw [rd_go (step_mono hq x)]
      exact rd_mono k (by have := step_shrinks hq; omega) h x
/-- The whole of a text. -/
def backE (s : List UInt8) : List UInt8 × Int × Int := match rdS .hd [] s with
  | .short _ _ _ => ([], 0, 8)
  | .err e => ([], 0, e)
  | .fin out r => (out, (s.length : Int) - r.length, 0)
end Go.Larder

/- Fields parsed: an error has a number; no more bytes than there are. No program in sight. -/
namespace Go.Larder
open Go.RowKit
set_option linter.unusedVariables false
set_option linter.unusedSimpArgs false
theorem lineE_err {s : List UInt8} {m : Nat} {e : Int} (h : lineE s m = .error e) : e ≠ 0 := by
  unfold lineE at h
  split at h
  · split at h <;> (injection h with h; omega)
  · split at h
    · injection h with h; omega
    · cases h
theorem lineE_len {s l : List UInt8} {m : Nat} (h : lineE s m = .ok l) : l.length + 2 ≤ s.length := by
  rcases index_cases s [13, 10] with h1 | ⟨i, h1, hi⟩
  · rw [line_none h1] at h; split at h <;> cases h
  · rw [line_at h1] at h
    split at h
    · cases h
    · injection h with h
      subst h
      simp only [List.length_cons, List.length_nil] at hi
      rw [List.length_take]
      omega
theorem fp_fin : ∀ (n : Nat) (rest : List UInt8) (k : Nat) (out : List (List UInt8 × List UInt8)), rest.length < n →
    (∀ e, fpGo n rest k out = .error e → e ≠ 0) ∧ (∀ o k', fpGo n rest k out = .ok (o, k') → k' ≤ k + rest.length)
  | 0, _, _, _, h => absurd h (Nat.not_lt_zero _)
  | n + 1, rest, k, out, hn => by
    cases hl : lineE rest 1100 with
    | error e =>
      rw [fp_err hl]
      exact ⟨fun e' h => by injection h with h; subst h; exact lineE_err hl, fun o k' h => by cases h⟩
    | ok l =>
      have hlen := lineE_len hl
      cases hem : l.isEmpty
      · by_cases ho : out.length = 30
        · rw [fp_full hl hem ho]
          exact ⟨fun e' h => by injection h with h; omega, fun o k' h => by cases h⟩
        · cases hc : ((cut1 58 l).2.2 && isTok (cut1 58 l).1)
          · rw [fp_syn hl hem ho hc]
            exact ⟨fun e' h => by injection h with h; omega, fun o k' h => by cases h⟩
          · by_cases hk : chkF (cut1 58 l).1 (trim (cut1 58 l).2.1) = 0
            · rw [fp_step hl hem ho hc hk]
              have ih := fp_fin n (rest.drop (l.length + 2)) (k + l.length + 2) (out ++ [((cut1 58 l).1, trim (cut1 58 l).2.1)]) (by rw [List.length_drop]; omega)
              refine ⟨ih.1, fun o k' h => ?_⟩
              have := ih.2 o k' h
              rw [List.length_drop] at this
              omega
            · rw [fp_chk hl hem ho hc hk]
              exact ⟨fun e' h => by injection h with h; subst h; exact hk, fun o k' h => by cases h⟩
      · have : l = [] := by simpa using hem
        subst this
        rw [fp_end hl]
        refine ⟨fun e' h => (by cases h), fun o k' h => ?_⟩
        injection h with h
        injection h with _ h
        omega
theorem fpE_err {s : List UInt8} {e : Int} (h : fpE s = .error e) : e ≠ 0 := (fp_fin (s.length + 1) s 0 [] (Nat.lt_succ_self _)).1 e h
theorem fpE_len {s : List UInt8} {o : List (List UInt8 × List UInt8)} {k : Nat} (h : fpE s = .ok (o, k)) : k ≤ s.length := by
  have := (fp_fin (s.length + 1) s 0 [] (Nat.lt_succ_self _)).2 o k h
  omega
theorem headS_err {s : List UInt8} {e : Int} (h : headS s = .error e) : e ≠ 0 := by
  unfold headS at h
  split at h
  · injection h with h; omega
  · split at h
    · injection h with h; omega
    · split at h
      · injection h with h; omega
      · split at h
        · cases h
        · injection h with h; omega
end Go.Larder
namespace Go.Larder
open Go.RowKit
theorem step_err {s : Stg} {out r : List UInt8} {e : Int} (h : stepS s out r = .err e) : e ≠ 0 ∧ e ≠ 8 := by
  unfold stepS at h
  cases s with
  | hd =>
    simp only at h
    cases hq : headS r with
    | error n =>
      simp only [hq] at h
      split at h
      · cases h
      · next h8 => injection h with h; subst h; exact ⟨headS_err hq, h8⟩
    | ok p =>
      obtain ⟨n, k⟩ := p
      simp only [hq] at h
      split at h
      · injection h with h; omega
      · cases h
  | dt n =>
    simp only at h
    split at h
    · cases h
    · split at h
      · cases h
      · split at h
        · cases h
        · injection h with h; omega
  | tr =>
    simp only at h
    cases hq : fpE r with
    | error n =>
      simp only [hq] at h
      split at h
      · cases h
      · next h8 => injection h with h; subst h; exact ⟨fpE_err hq, h8⟩
    | ok p => obtain ⟨a, k⟩ := p; simp only [hq] at h; cases h
theorem rd_err_ne : ∀ (k : Nat) {s : Stg} {out r : List UInt8} {e : Int}, r.length < k → rdS s out r = .err e → e ≠ 0 ∧ e ≠ 8
  | 0, _, _, _, _, h, _ => absurd h (Nat.not_lt_zero _)
  | k + 1, s, out, r, e, hk, h => by
    cases hq : stepS s out r with
    | short => rw [rd_short hq] at h; cases h
    | err e' => rw [rd_err hq] at h; injection h with h; subst h; exact step_err hq
    | fin r2 => rw [rd_fin hq] at h; cases h
    | go s2 out2 r2 => rw [rd_go hq] at h; exact rd_err_ne k (by have := step_shrinks hq; omega) h
end Go.Larder

/- Messages, read. No program in sight. -/
namespace Go.Larder
open Go.RowKit
set_option linter.unusedVariables false
set_option linter.unusedSimpArgs false
/-- what is behind the fields: the body, and how many bytes all have -/
def mrB (L at_ : Nat) (k : Int × Int × Int) (rest : List UInt8) : Except Int (List UInt8 × Int) :=
  if ¬ k.2.2 = 0 then .error k.2.2 else if k.1 = 2 then (if (rest.length : Int) < k.2.1 then .error 8 else .ok (rest.take k.2.1.toNat, (at_ : Int) + k.2.1))
  else if k.1 = 4 then (if 5000 < rest.length then .error 2 else .ok (rest, (L : Int)))
  else if k.1 = 3 then (if (backE rest).2.2 = 0 then .ok ((backE rest).1, (at_ : Int) + (backE rest).2.1) else .error (backE rest).2.2)
  else .ok ([], (at_ : Int))
/-- a message's fields, body, and how many bytes it has -/
def mrE (req : Bool) (m : List UInt8) (code : Int) (s : List UInt8) : Except Int (List Fld × List UInt8 × Int) := match fpE s with
  | .error e => .error e
  | .ok (l, k) => match mrB s.length k (kindE req m code l) (s.drop k) with
    | .error e => .error e
    | .ok (b, n) => .ok (l, b, n)
theorem mrB_e {L a : Nat} {k : Int × Int × Int} {r : List UInt8} (h : ¬ k.2.2 = 0) : mrB L a k r = .error k.2.2 := by unfold mrB; rw [if_pos h]
theorem mrB_1 {L a : Nat} {r : List UInt8} : mrB L a (1, 0, 0) r = .ok ([], (a : Int)) := by simp [mrB]
theorem mrB_2 {L a : Nat} {n : Int} {r : List UInt8} : mrB L a (2, n, 0) r = if (r.length : Int) < n then .error 8 else .ok (r.take n.toNat, (a : Int) + n) := by simp [mrB]
theorem mrB_3 {L a : Nat} {r : List UInt8} : mrB L a (3, 0, 0) r = if (backE r).2.2 = 0 then .ok ((backE r).1, (a : Int) + (backE r).2.1) else .error (backE r).2.2 := by simp [mrB]
theorem mrB_4 {L a : Nat} {r : List UInt8} : mrB L a (4, 0, 0) r = if 5000 < r.length then .error 2 else .ok (r, (L : Int)) := by simp [mrB]
theorem rd_fin_le : ∀ (k : Nat) {s : Stg} {out out' r r' : List UInt8}, r.length < k → rdS s out r = .fin out' r' → r'.length ≤ r.length
  | 0, _, _, _, _, _, h, _ => absurd h (Nat.not_lt_zero _)
  | k + 1, s, out, out', r, r', hk, h => by
    cases hq : stepS s out r with
    | short => rw [rd_short hq] at h; cases h
    | err e => rw [rd_err hq] at h; cases h
    | fin r2 =>
      rw [rd_fin hq] at h
      injection h with e1 e2
      subst e2
      unfold stepS at hq
      cases s with
      | hd => simp only at hq; split at hq <;> (try split at hq) <;> cases hq
      | dt n => simp only at hq; split at hq <;> (try split at hq) <;> (try split at hq) <;> cases hq
      | tr =>
        simp only at hq
        split at hq
        · split at hq <;> cases hq
        · injection hq with hq; subst hq; rw [List.length_drop]; omega
    | go s2 out2 r2 =>
      rw [rd_go hq] at h
      have h1 := step_shrinks hq
      have h2 := rd_fin_le k (by omega) h
      omega
theorem backE_bd (s : List UInt8) : 0 ≤ (backE s).2.1 ∧ (backE s).2.1 ≤ s.length := by
  unfold backE
  cases hq : rdS .hd [] s with
  | short a b c => simp
  | err e => simp
  | fin o r =>
    have := rd_fin_le _ (Nat.lt_succ_self _) hq
    simp only
    omega
theorem fp_sum : ∀ (n : Nat) (rest : List UInt8) (k : Nat) (out o : List (List UInt8 × List UInt8)) (k' : Nat), fpGo n rest k out = .ok (o, k') →
    (o.map (fun f => f.1.length + f.2.length + 3)).sum ≤ (out.map (fun f => f.1.length + f.2.length + 3)).sum + rest.length
  | 0, _, _, _, _, _, h => by cases h
  | n + 1, rest, k, out, o, k', h => by
    cases hl : lineE rest 1100 with
    | error e => rw [fp_err hl] at h; cases h
    | ok l =>
      have hlen := lineE_len hl
      cases hem : l.isEmpty
      · by_cases ho : out.length = 30
        · rw [fp_full hl hem ho] at h; cases h
        · cases hc : ((cut1 58 l).2.2 && isTok (cut1 58 l).1)
          · rw [fp_syn hl hem ho hc] at h; cases h
          · by_cases hk : chkF (cut1 58 l).1 (trim (cut1 58 l).2.1) = 0
            · rw [fp_step hl hem ho hc hk] at h
              have ih := fp_sum n _ _ _ _ _ h
              have h2 : (cut1 58 l).2.2 = true := by
                rw [Bool.and_eq_true] at hc; exact hc.1
              have h3 := congrArg List.length (cut1_true h2).1
              have h4 := trim_len (cut1 58 l).2.1
              rw [List.length_append, List.length_cons] at h3
              rw [List.map_append, List.sum_append, List.length_drop] at ih
              simp only [List.map_cons, List.map_nil, List.sum_cons, List.sum_nil] at ih
              omega
            · rw [fp_chk hl hem ho hc hk] at h; cases h
      · have : l = [] := by simpa using hem
        subst this
        rw [fp_end hl] at h
        injection h with h
        injection h with h _
        subst h
        omega
theorem fpE_sum {s : List UInt8} {o : List (List UInt8 × List UInt8)} {k : Nat} (h : fpE s = .ok (o, k)) : (o.map (fun f => f.1.length + f.2.length + 3)).sum ≤ s.length := by
  have := fp_sum _ _ _ _ _ _ h
  simpa using this
end Go.Larder

