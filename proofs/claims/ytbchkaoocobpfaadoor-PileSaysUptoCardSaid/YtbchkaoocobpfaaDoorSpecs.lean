/- The plain laws that the walks lean on, in one text. No program in sight. -/
import Derived.WalkKit
import Derived.WalkSpells
import Derived.WalkLawsBesides
import Derived.Handy
import Derived.Lib.Hide
import Derived.Lib.Strings
import Derived.Lib.ConvBytes
import Derived.Laws.BytesArg
import Derived.Deep.Draws
import Derived.Deep.AppendLies
import Derived.Maps.AppendAt
import Derived.Lib.AppendStr
import Derived.Laws.BitsAllLaws
import Derived.KernelRfl
import Derived.Laws.Rows
import Derived.Laws.ResultCell
import Derived.Laws.IdiomCopy
import Derived.RangeFuncNested
import Derived.RangeFuncBound
import Derived.RangeFuncCalls
import Derived.RangeFuncLeaves
import Derived.OwnWalkIn
import Derived.Lib.SliceRun
import Derived.Lib.Bytealg
import Derived.Lib.SplitLaws
import Derived.Lib.Join
import Derived.ArgAppend
import Derived.Maps.OwnSet
import Derived.Maps.RangeWalk
import Derived.Laws.CopyOwn
import Derived.OwnWalk
import Derived.Laws.Slices
/- Base for the proofs of this seat: texts as lists of bytes, slices that read as lists, slices that the call owns, small facts. No program in sight. -/
namespace Go.Larder
open Go.RowKit
set_option linter.unusedVariables false
set_option linter.unusedSimpArgs false

/-- A text's value, by its bytes. -/
abbrev S (l : List UInt8) : Value := .string ⟨l.toArray⟩

theorem ba_size (l : List UInt8) : (⟨l.toArray⟩ : ByteArray).size = l.length := by show l.toArray.size = _; simp
theorem ba_get (l : List UInt8) (i : Nat) (h : i < (⟨l.toArray⟩ : ByteArray).size) : (⟨l.toArray⟩ : ByteArray)[i]'h = l[i]'(by rw [ba_size] at h; exact h) := by
  show (l.toArray)[i]'_ = _
  simp
theorem ba_extract (l : List UInt8) (a b : Nat) : (⟨l.toArray⟩ : ByteArray).extract a b = ⟨((l.drop a).take (b - a)).toArray⟩ := ByteArray.extract_mk l a b
theorem ba_append (l m : List UInt8) : (⟨l.toArray⟩ : ByteArray) ++ (⟨m.toArray⟩ : ByteArray) = ⟨(l ++ m).toArray⟩ := by
  apply ByteArray.ext
  simp
theorem ba_toList (l : List UInt8) : (⟨l.toArray⟩ : ByteArray).toList = l := by rw [Lib.toList_data]
theorem isEmpty_snoc {α : Type} (l : List α) (b : α) : (l ++ [b]).isEmpty = false := by simp
theorem int_bne (a b : Int) : (a != b) = !(a == b) := rfl
theorem wrap64_u8 (c : UInt8) : wrap64 (c.toNat : Int) = c.toNat := IntWalk.wrap64_in _ ⟨by have := c.toNat_lt; omega, by have := c.toNat_lt; omega⟩
theorem sing_q (x : UInt8) (n : UInt8) : ([x] == [n]) = ((x.toNat : Int) == (n.toNat : Int)) := by
  rw [Bool.eq_iff_iff]
  simp
  constructor
  · rintro rfl; rfl
  · intro h; exact UInt8.toNat_inj.1 (by omega)
theorem u8_mod32 (c : UInt8) : (c.toNat : Int) % 4294967296 = c.toNat := by have := c.toNat_lt; omega
attribute [go_sem] u8_mod32 wrap64_u8 int_bne ba_size ba_get ba_extract ba_append ba_toList isEmpty_snoc

/-- A text's length, off its value: for a loop's measure. -/
def lenOf : Value → Nat
  | .string b => b.size
  | _ => 0
theorem lenOf_S (l : List UInt8) : lenOf (S l) = l.length := ba_size l

theorem lenOf_empty : lenOf (.string ByteArray.empty) = 0 := rfl

theorem ret_bool {a b : Bool} (h : a = b) : Ending.returned (.bool a) = .returned (.bool b) := by rw [h]
theorem ret_int {k : IntKind} {a b : Int} (h : a = b) : Ending.returned (.int k a) = .returned (.int k b) := by rw [h]
theorem ret_S {a b : List UInt8} (h : a = b) : Ending.returned (S a) = .returned (S b) := by rw [h]

/-- What a test on a byte says of it. -/
theorem u8_beq (c : UInt8) (n : Nat) (h : n < 256) : ((c.toNat : Int) == (n : Int)) = (c == UInt8.ofNat n) := by
  rw [Bool.eq_iff_iff, beq_iff_eq, beq_iff_eq]
  constructor
  · intro e
    have : c.toNat = n := by omega
    rw [← this]; simp
  · rintro rfl
    simp; omega

theorem drop_step {α : Type} {l : List α} {k : Nat} (h : k < l.length) : ∃ x, l[k]? = some x ∧ l.drop k = x :: l.drop (k + 1) :=
  ⟨l[k], List.getElem?_eq_getElem h, List.drop_eq_getElem_cons h⟩
theorem drop_end {α : Type} {l : List α} {k : Nat} (h : ¬ k < l.length) : l.drop k = [] := List.drop_eq_nil_of_le (by omega)

theorem nil_or_snoc {α : Type} (l : List α) : l = [] ∨ ∃ m b, l = m ++ [b] := by
  rcases List.eq_nil_or_concat l with h | ⟨m, b, h⟩
  · exact .inl h
  · exact .inr ⟨m, b, by simpa using h⟩

/-- How an element lies in cells. -/
structure ElemT (α : Type) where
  enc : α → List Value
  size : Nat
  len : ∀ a, (enc a).length = size
  one : ∀ a, ∀ u ∈ enc a, u.oneCell' = true
  pos : 0 < size

def encB : ElemT UInt8 := ⟨fun b => [.int .u8 b.toNat], 1, fun _ => rfl, fun _ u hu => by simp at hu; subst hu; rfl, by omega⟩
def encS : ElemT (List UInt8) := ⟨fun s => [S s], 1, fun _ => rfl, fun _ u hu => by simp at hu; subst hu; rfl, by omega⟩
def encI : ElemT Int := ⟨fun n => [.int .i64 n], 1, fun _ => rfl, fun _ u hu => by simp at hu; subst hu; rfl, by omega⟩
/-- Two texts: a field, a parameter. -/
def encF : ElemT (List UInt8 × List UInt8) := ⟨fun f => [S f.1, S f.2], 2, fun _ => rfl, fun _ u hu => by simp at hu; rcases hu with rfl | rfl <;> rfl, by omega⟩
/-- Two numbers. -/
def encII : ElemT (Int × Int) := ⟨fun f => [.int .i64 f.1, .int .i64 f.2], 2, fun _ => rfl, fun _ u hu => by simp at hu; rcases hu with rfl | rfl <;> rfl, by omega⟩

section
variable {α : Type} (E : ElemT α)

theorem ElemT.length_flatMap (l : List α) : (l.flatMap E.enc).length = l.length * E.size := by
  induction l with
  | nil => simp
  | cons a l ih => simp [List.flatMap_cons, E.len, ih, Nat.add_mul]; omega

theorem ElemT.one_flatMap (l : List α) : ∀ u ∈ l.flatMap E.enc, u.oneCell' = true := by
  intro u hu
  obtain ⟨a, _, h⟩ := List.mem_flatMap.1 hu
  exact E.one a u h

theorem ElemT.get_flatMap : ∀ (l : List α) (k : Nat) (a : α) (j : Nat) (u : Value), l[k]? = some a → (E.enc a)[j]? = some u → (l.flatMap E.enc)[k * E.size + j]? = some u
  | [], k, a, j, u, h, _ => by simp at h
  | x :: l, 0, a, j, u, h, hj => by
    simp at h
    subst h
    rw [List.flatMap_cons, Nat.zero_mul, Nat.zero_add, List.getElem?_append_left]
    · exact hj
    · exact (List.getElem?_eq_some_iff.1 hj).1
  | x :: l, k + 1, a, j, u, h, hj => by
    rw [List.getElem?_cons_succ] at h
    rw [List.flatMap_cons, List.getElem?_append_right (by rw [E.len, Nat.add_mul]; omega), E.len, show (k + 1) * E.size + j - E.size = k * E.size + j from by rw [Nat.add_mul]; omega]
    exact ElemT.get_flatMap l k a j u h hj

/-- The slice '.slice A l.length _' reads as l, in a block below B. -/
def ReadL (w : World) (B : Nat) (A : Option Addr) (l : List α) : Prop :=
  0 < l.length → ∃ b off, A = some ⟨b, off, none⟩ ∧ b < B ∧ ∀ k a, l[k]? = some a → ∀ j u, (E.enc a)[j]? = some u → w.cell? ⟨b, off + k * E.size + j, none⟩ = some u

/-- The slice '.slice A l.length c' holds l in a row of the call's own (from block 'base' on). -/
def OwnL (w : World) (base : Nat) (e : TypeId) (A : Option Addr) (c : Nat) (l : List α) : Prop :=
  w.ownsRow base e E.size (.slice A l.length c) l.length (l.flatMap E.enc)
end

section
variable {α : Type} {E : ElemT α} {w w' : World} {B B' base : Nat} {e : TypeId} {A : Option Addr} {c : Nat} {l : List α}

theorem ReadL.nil : ReadL E w B A ([] : List α) := fun h => absurd h (by simp)
theorem ReadL.keep (h : ReadL E w B A l) (hk : ∀ p : Addr, p.block < B → w'.cell? p = w.cell? p) : ReadL E w' B A l := fun hn => by
  obtain ⟨b, off, rfl, hb, hc⟩ := h hn
  exact ⟨b, off, rfl, hb, fun k a ha j u hu => (hk _ hb).trans (hc k a ha j u hu)⟩
theorem ReadL.more (h : ReadL E w B A l) (hB : B ≤ B') : ReadL E w B' A l := fun hn => by
  obtain ⟨b, off, rfl, hb, hc⟩ := h hn
  exact ⟨b, off, rfl, by omega, hc⟩
theorem ReadL.below (h : ReadL E w B A l) (hb : Below B' w w') (hB : B ≤ B') : ReadL E w' B A l := h.keep fun _ hp => hb.cell (by omega)
theorem ReadL.alloc (h : ReadL E w B A l) (hB : B ≤ w.heap.size) (o : Obj) : ReadL E (w.alloc o) B A l := h.keep fun p hp => World.cell?_alloc_lt w o p (by omega)
theorem ReadL.at_ (h : ReadL E w B A l) {k : Nat} {a : α} (ha : l[k]? = some a) :
    ∃ b off, A = some ⟨b, off, none⟩ ∧ b < B ∧ ∀ j u, (E.enc a)[j]? = some u → w.cell? ⟨b, off + k * E.size + j, none⟩ = some u := by
  obtain ⟨b, off, rfl, hb, hc⟩ := h (by have := (List.getElem?_eq_some_iff.1 ha).1; omega)
  exact ⟨b, off, rfl, hb, hc k a ha⟩
theorem ReadL.at_B {l : List UInt8} (h : ReadL encB w B A l) {k : Nat} {x : UInt8} (hx : l[k]? = some x) : ∃ b off, A = some ⟨b, off, none⟩ ∧ b < B ∧ w.cell? ⟨b, off + k, none⟩ = some (.int .u8 x.toNat) := by
  obtain ⟨b, off, hA, hb, hc⟩ := h.at_ hx
  exact ⟨b, off, hA, hb, by simpa [encB] using hc 0 _ rfl⟩
theorem ReadL.at_S {l : List (List UInt8)} (h : ReadL encS w B A l) {k : Nat} {x : List UInt8} (hx : l[k]? = some x) : ∃ b off, A = some ⟨b, off, none⟩ ∧ b < B ∧ w.cell? ⟨b, off + k, none⟩ = some (S x) := by
  obtain ⟨b, off, hA, hb, hc⟩ := h.at_ hx
  exact ⟨b, off, hA, hb, by simpa [encS] using hc 0 _ rfl⟩
theorem ReadL.at_I {l : List Int} (h : ReadL encI w B A l) {k : Nat} {x : Int} (hx : l[k]? = some x) : ∃ b off, A = some ⟨b, off, none⟩ ∧ b < B ∧ w.cell? ⟨b, off + k, none⟩ = some (.int .i64 x) := by
  obtain ⟨b, off, hA, hb, hc⟩ := h.at_ hx
  exact ⟨b, off, hA, hb, by simpa [encI] using hc 0 _ rfl⟩
theorem ReadL.at_F {l : List (List UInt8 × List UInt8)} (h : ReadL encF w B A l) {k : Nat} {x : List UInt8 × List UInt8} (hx : l[k]? = some x) :
    ∃ b off, A = some ⟨b, off, none⟩ ∧ b < B ∧ w.cell? ⟨b, off + k * 2, none⟩ = some (S x.1) ∧ w.cell? ⟨b, off + k * 2 + 1, none⟩ = some (S x.2) := by
  obtain ⟨b, off, hA, hb, hc⟩ := h.at_ hx
  exact ⟨b, off, hA, hb, by simpa [encF] using hc 0 _ rfl, by simpa [encF] using hc 1 _ rfl⟩
theorem ReadL.at_II {l : List (Int × Int)} (h : ReadL encII w B A l) {k : Nat} {x : Int × Int} (hx : l[k]? = some x) :
    ∃ b off, A = some ⟨b, off, none⟩ ∧ b < B ∧ w.cell? ⟨b, off + k * 2, none⟩ = some (.int .i64 x.1) ∧ w.cell? ⟨b, off + k * 2 + 1, none⟩ = some (.int .i64 x.2) := by
  obtain ⟨b, off, hA, hb, hc⟩ := h.at_ hx
  exact ⟨b, off, hA, hb, by simpa [encII] using hc 0 _ rfl, by simpa [encII] using hc 1 _ rfl⟩
/-- A literal's block reads as the list. -/
theorem ReadL.lit (w : World) (cs : Array Value) (e : TypeId) (l : List α) (h : cs.toList = l.flatMap E.enc) : ReadL E (w.alloc (.cells cs e)) (w.heap.size + 1) (some ⟨w.heap.size, 0, none⟩) l := fun _ =>
  ⟨_, 0, rfl, by omega, fun k a ha j u hu => by
    have := E.get_flatMap l k a j u ha hu
    rw [← h, Array.getElem?_toList] at this
    rw [cell_of_row _ _ _ cs e (0, 0) (heap_alloc_new w _), Nat.zero_add]
    exact this⟩
theorem ReadL.lit' (w : World) (cs : Array Value) (e : TypeId) (l : List α) (h : cs.toList = l.flatMap E.enc) {g : Nat} (hg : g = w.heap.size) : ReadL E (w.alloc (.cells cs e)) (g + 1) (some ⟨g, 0, none⟩) l := by
  subst hg
  exact ReadL.lit w cs e l h
/-- The slice's tail from k on ('s[k:]' keeps the address at the very end). -/
theorem ReadL.drop {b off : Nat} (h : ReadL E w B (some ⟨b, off, none⟩) l) (k : Nat) : ReadL E w B (some ⟨b, off + k * E.size, none⟩) (l.drop k) := fun hn => by
  rw [List.length_drop] at hn
  obtain ⟨b', off', hA, hb, hc⟩ := h (by omega)
  injection hA with hA
  injection hA with h1 h2
  subst h1 h2
  refine ⟨_, _, rfl, hb, fun i a ha j u hu => ?_⟩
  rw [List.getElem?_drop] at ha
  have := hc (k + i) a ha j u hu
  rwa [Nat.add_mul, ← Nat.add_assoc] at this
theorem ReadL.take (h : ReadL E w B A l) (k : Nat) : ReadL E w B A (l.take k) := fun hn => by
  rw [List.length_take] at hn
  obtain ⟨b, off, hA, hb, hc⟩ := h (by omega)
  refine ⟨b, off, hA, hb, fun i a ha j u hu => hc i a ?_ j u hu⟩
  rw [List.getElem?_take] at ha
  split at ha
  · exact ha
  · cases ha

theorem OwnL.nil (w : World) (base : Nat) (e : TypeId) : OwnL E w base e none 0 ([] : List α) := World.ownsRow_nil _ _ _ _
theorem OwnL.read (h : OwnL E w base e A c l) : ReadL E w w.heap.size A l := fun hn => by
  obtain ⟨_, h2⟩ := h
  rcases h2 with ⟨hv, _⟩ | ⟨g, cap, cur, hv, hg, hh, hnc, _, hcs, hcur⟩
  · injection hv with _ hl
    omega
  · injection hv with hA _ _
    subst hA
    refine ⟨g, 0, rfl, ?_, fun k a ha j u hu => ?_⟩
    · rcases Nat.lt_or_ge g w.heap.size with h' | h'
      · exact h'
      · simp [Array.getElem?_eq_none h'] at hh
    · have hx := E.get_flatMap l k a j u ha hu
      rw [cell_of_row w g _ cur e (0, 0) hh, Nat.zero_add, ← Array.getElem?_toList]
      rw [← hcur, List.getElem?_take] at hx
      split at hx
      · exact hx
      · cases hx
theorem OwnL.lt (h : OwnL E w base e A c l) : ∀ g, A = some g → base ≤ g.block ∧ g.block < w.heap.size := fun g hg => by
  subst hg
  exact World.ownsRow.lt h g.block rfl
theorem OwnL.keep (h : OwnL E w base e A c l) (hk : ∀ g, A = some g → w'.heap[g.block]? = w.heap[g.block]?) : OwnL E w' base e A c l := by
  obtain ⟨h1, h2⟩ := h
  refine ⟨h1, ?_⟩
  rcases h2 with h2 | ⟨g, cap, cur, hv, hg, hh, r⟩
  · exact .inl h2
  · injection hv with hA h3 h4
    exact .inr ⟨g, cap, cur, by rw [hA, h4], hg, (hk _ hA).trans hh, r⟩
theorem OwnL.below (h : OwnL E w base e A c l) (hb : Below B w w') (hB : w.heap.size ≤ B) : OwnL E w' base e A c l :=
  h.keep fun g hg => hb.block _ (by have := (h.lt g hg).2; omega)
theorem OwnL.alloc (h : OwnL E w base e A c l) (o : Obj) : OwnL E (w.alloc o) base e A c l := World.ownsRow.alloc h o
theorem OwnL.drew (h : OwnL E w base e A c l) : OwnL E w.drew base e A c l := h
theorem OwnL.drewN (h : OwnL E w base e A c l) (n : Nat) : OwnL E (w.drewN n) base e A c l := h
theorem OwnL.base_le (h : OwnL E w base e A c l) {base' : Nat} (hb : base' ≤ base) : OwnL E w base' e A c l := by
  obtain ⟨h1, h2⟩ := h
  refine ⟨h1, ?_⟩
  rcases h2 with h2 | ⟨g, cap, cur, hv, hg, r⟩
  · exact .inl h2
  · exact .inr ⟨g, cap, cur, hv, by omega, r⟩
theorem OwnL.some_ (h : OwnL E w base e A c l) (hl : 0 < l.length) : ∃ g, A = some ⟨g, 0, none⟩ ∧ base ≤ g ∧ g < w.heap.size := by
  obtain ⟨_, h2⟩ := h
  rcases h2 with ⟨hv, h0⟩ | ⟨g, cap, cur, hv, hg, hh, r⟩
  · omega
  · injection hv with hA _ _
    refine ⟨g, hA, hg, ?_⟩
    rcases Nat.lt_or_ge g w.heap.size with h' | h'
    · exact h'
    · simp [Array.getElem?_eq_none h'] at hh
end

section
variable {α : Type} {E : ElemT α} {w : World} {base g c : Nat} {e : TypeId}
/-- A literal's block is the call's own. -/
theorem own_lit {α : Type} {E : ElemT α} (w : World) (base : Nat) (e : TypeId) (cs : Array Value) (l : List α) (h : cs.toList = l.flatMap E.enc) (hb : base ≤ w.heap.size) (hm : l.length ≤ maxLen) : OwnL E (w.alloc (.cells cs e)) base e (some ⟨w.heap.size, 0, none⟩) l.length l := by
  have hs : cs.size = l.length * E.size := by rw [← Array.length_toList, h, E.length_flatMap]
  have := World.ownsRow_lit (base := base) (size := E.size) (e := e) w cs l.length hb hm hs
  rw [h] at this
  exact this
theorem OwnL.frozen {l : List α} (h : OwnL E w base e (some ⟨g, 0, none⟩) c l) (j : Nat) : w.frozen? ⟨g, j, none⟩ = false := World.ownsRow.frozenAt h j
theorem OwnL.get_S {l : List (List UInt8)} (h : OwnL encS w base e (some ⟨g, 0, none⟩) c l) {j : Nat} {x : List UInt8} (hx : l[j]? = some x) : w.cell? ⟨g, j, none⟩ = some (S x) := by
  obtain ⟨b, off, hA, _, hc⟩ := h.read.at_S hx
  injection hA with hA
  injection hA with h1 h2
  subst h1 h2
  simpa using hc
theorem OwnL.get_B {l : List UInt8} (h : OwnL encB w base e (some ⟨g, 0, none⟩) c l) {j : Nat} {x : UInt8} (hx : l[j]? = some x) : w.cell? ⟨g, j, none⟩ = some (.int .u8 x.toNat) := by
  obtain ⟨b, off, hA, _, hc⟩ := h.read.at_B hx
  injection hA with hA
  injection hA with h1 h2
  subst h1 h2
  simpa using hc
theorem flat_S (l : List (List UInt8)) : l.flatMap encS.enc = l.map fun s => S s := by
  induction l with
  | nil => rfl
  | cons a l ih => rw [List.flatMap_cons, ih]; rfl
theorem flat_B (l : List UInt8) : l.flatMap encB.enc = l.map fun b => .int .u8 b.toNat := by
  induction l with
  | nil => rfl
  | cons a l ih => rw [List.flatMap_cons, ih]; rfl
theorem OwnL.set_S {l : List (List UInt8)} (h : OwnL encS w base e (some ⟨g, 0, none⟩) c l) (j : Nat) (x : List UInt8) :
    OwnL encS (w.setCell ⟨g, j, none⟩ (S x)) base e (some ⟨g, 0, none⟩) c (l.set j x) := by
  have h1 := (World.ownsRow.stored h j (S x)).1
  unfold OwnL
  rw [flat_S] at h1 ⊢
  rw [List.map_set, List.length_set]
  exact h1
theorem OwnL.set_B {l : List UInt8} (h : OwnL encB w base e (some ⟨g, 0, none⟩) c l) (j : Nat) (x : UInt8) :
    OwnL encB (w.setCell ⟨g, j, none⟩ (.int .u8 x.toNat)) base e (some ⟨g, 0, none⟩) c (l.set j x) := by
  have h1 := (World.ownsRow.stored h j (.int .u8 x.toNat)).1
  unfold OwnL
  rw [flat_B] at h1 ⊢
  rw [List.map_set, List.length_set]
  exact h1
end

/-- A slice type and its element type, as the program's table has them. -/
structure SlT (P : Program) (t e : TypeId) (size bytes : Nat) : Prop where
  ht : P.underlying t = some (.slice e)
  info : ∃ i z, P.info? e = some i ∧ i.zero = some z ∧ i.size = size ∧ i.bytes = bytes ∧ z.cells.size = size

theorem SlT.mk' {P : Program} {t e : TypeId} {z : Value} {size bytes : Nat} (ht : P.underlying t = some (.slice e)) (hi : (P.info? e).map (fun i => (i.zero, i.size, i.bytes)) = some (some z, size, bytes)) (hz : z.cells.size = size) : SlT P t e size bytes := by
  obtain ⟨i, h1, h2, h3, h4⟩ := info_parts hi
  exact ⟨ht, i, z, h1, h2, h3, h4, hz⟩

section
variable {P : Program} {w : World} {ops : Array Oper} {rest : List Oper} {o : Oper} {a : Act} {Q : Exit → Act → World → Prop} {t e : TypeId} {size bytes : Nat} {α : Type} {base c : Nat} {A : Option Addr} {l : List α}

/-- 'append(s, x1, .. , xm)': the elements lie in the block that was laid for them. -/
theorem wpList_app (E : ElemT α) (T : SlT P t e E.size bytes) (news : List α) (hgd : o.guard = none) (s x : Operand)
    (ho : o.op = .call { callee := .builtin .append, args := #[s, x], argTypes := #[t, t] })
    (hs : a.eval s = .slice A l.length c) (hown : OwnL E w base e A c l) (cs : Array Value) (hcs : cs.toList = news.flatMap E.enc) (m : Nat) (hm : news.length = m + 1)
    (hx : a.eval x = .slice (some ⟨w.heap.size, 0, none⟩) (m + 1) (m + 1)) (hb : (l.length + (m + 1)) * bytes ≤ 140737488355328) (h63 : l.length + (m + 1) ≤ maxLen) (hbase : base ≤ w.heap.size)
    (k : ∀ g c' w', OwnL E w' base e (some ⟨g, 0, none⟩) c' (l ++ news) → w.grownBy w' (Value.slice A l.length c).ownBlock → Below base w w' → base ≤ g → wpList P ops Q rest (a.put o.dst (.slice (some ⟨g, 0, none⟩) (l.length + (m + 1)) c')) w') :
    wpList P ops Q (o :: rest) a (w.alloc (.cells cs e)) := by
  obtain ⟨i, z, hi, hz, hz1, hz2, hz3⟩ := T.info
  have hlen : news.length = m + 1 := hm
  refine wpList_append_own _ hgd s x t ho base e i z E.size bytes T.ht hi hz hz1 hz2 hz3 E.pos (.slice A l.length c) l.length (l.flatMap E.enc) hs (World.ownsRow.alloc hown _) ⟨w.heap.size, 0, none⟩ (m + 1) (m + 1) (news.flatMap E.enc) hx
    (by rw [E.length_flatMap, hlen]) ?_ (E.one_flatMap news) h63 hb (by simp; omega) ?_
  · intro j u hj
    exact World.news_of_block (heap_alloc_new w (.cells cs e)) j u (by rw [hcs]; exact hj)
  · intro v' w' h1 h2 _
    obtain ⟨g, cap, rfl⟩ : ∃ g cap, v' = .slice (some ⟨g, 0, none⟩) (l.length + (m + 1)) cap := by
      rcases h1.2 with ⟨_, h0⟩ | ⟨g, cap, _, rfl, _⟩
      · omega
      · exact ⟨g, cap, rfl⟩
    have hl : (l ++ news).length = l.length + (m + 1) := by simp [hlen]
    have hg2 : w.grownBy w' (Value.slice A l.length c).ownBlock :=
      ⟨h2.os, h2.tape, h2.output, Nat.le_trans (by simp) h2.size, fun i hi hne => (h2.block i (by simp; omega) hne).trans (Below.heap_alloc w _ i hi)⟩
    refine k g cap w' ?_ hg2 ⟨h2.os, h2.tape, h2.output, Nat.le_trans (by simp) h2.size, fun i hi => hg2.block i (by omega) ?_⟩ ?_
    · unfold OwnL
      rw [hl, List.flatMap_append]
      exact h1
    · intro hne
      cases A with
      | none => simp [Value.ownBlock] at hne
      | some g' =>
        have := (OwnL.lt hown g' rfl).1
        simp [Value.ownBlock] at hne
        omega
    · exact (World.ownsRow.lt h1 g rfl).1
end

/-- '([]T, Errno)': nothing and a number, or a list in new memory and 0. -/
def SlPost {α : Type} (E : ElemT α) (t : TypeId) (w : World) (r : Except Int (List α)) (e : Ending) (w' : World) : Prop := match r with
  | .error n => e = .returned (.tuple #[.slice none 0 0, .int .i64 n]) ∧ Below w.heap.size w w'
  | .ok out => ∃ A c, e = .returned (.tuple #[.slice A out.length c, .int .i64 0]) ∧ OwnL E w' w.heap.size t A c out ∧ Below w.heap.size w w'
theorem SlPost.err {α : Type} {E : ElemT α} {t : TypeId} {w w' : World} {r : Except Int (List α)} {e : Ending} {n : Int} (h : SlPost E t w r e w') (hr : r = .error n) : e = .returned (.tuple #[.slice none 0 0, .int .i64 n]) ∧ Below w.heap.size w w' := by subst hr; exact h
theorem SlPost.ok_ {α : Type} {E : ElemT α} {t : TypeId} {w w' : World} {r : Except Int (List α)} {e : Ending} {out : List α} (h : SlPost E t w r e w') (hr : r = .ok out) : ∃ A c, e = .returned (.tuple #[.slice A out.length c, .int .i64 0]) ∧ OwnL E w' w.heap.size t A c out ∧ Below w.heap.size w w' := by subst hr; exact h

/-- '(string, Errno)': nothing and a number, or a text and 0. -/
def StPost (w : World) (r : Except Int (List UInt8)) (e : Ending) (w' : World) : Prop := (match r with
  | .error n => e = .returned (.tuple #[S [], .int .i64 n])
  | .ok out => e = .returned (.tuple #[S out, .int .i64 0])) ∧ Below w.heap.size w w'

/-- 'string(b)' of a slice that reads as l. -/
theorem run_bytes_str {P : Program} {w : World} {B : Nat} {A : Option Addr} {l : List UInt8} (src dst : TypeId) {e : TypeId} (hs : P.underlying src = some (.slice e)) (he : P.underlying e = some (.int .u8)) (hd : P.underlying dst = some .string) (h : ReadL encB w B A l) (c : Nat) :
    (convert src dst (.slice A l.length c)).run P w = .ok (S l) w := by
  cases l with
  | nil =>
    cases A with
    | none => exact run_convert_bytes_nil w src e hs he 0 c dst hd
    | some ad =>
      obtain ⟨b, off, sp⟩ := ad
      rw [run_convert_bytes_string w src dst e _ _ c hs he hd, run_bytesToString w ⟨b, off, sp⟩ _ c [] (by simpa using run_loadCells_list (P := P) w ⟨b, off, sp⟩ [] (by simp))]
      rfl
  | cons x l =>
    obtain ⟨b, off, rfl, _, hc⟩ := h (by simp)
    have := run_convert_bytes_arg (P := P) w src e hs he b off (x :: l).length c ((x :: l).map fun b => (b.toNat : Int)) (by simp) (fun i hi => by
      have h1 : (x :: l)[i]? = some (x :: l)[i] := List.getElem?_eq_getElem hi
      have h2 := hc i _ h1 0 (.int .u8 ((x :: l)[i]).toNat) rfl
      have h3 : off + i * encB.size + 0 = off + i := by show off + i * 1 + 0 = _; omega
      rw [h3] at h2
      rw [h2, List.getD_eq_getElem?_getD, List.getElem?_map, h1]
      rfl) dst hd
    rw [this]
    congr 2
    unfold strOfNums
    congr 2
    rw [List.map_map]
    conv => rhs; rw [← List.map_id (x :: l)]
    apply List.map_congr_left
    intro y _
    simp

/-- 'string([]byte{..})': a literal's bytes, whatever numbers they are written as. -/
theorem run_lit_str {P : Program} (src dst : TypeId) {e : TypeId} (hs : P.underlying src = some (.slice e)) (he : P.underlying e = some (.int .u8)) (hd : P.underlying dst = some .string) (W : World) (ns : List Int) (cs : Array Value) (hcs : cs.toList = ns.map (Value.int .u8)) (n c : Nat) (hn : n = ns.length) (g : Nat) (hg : g = W.heap.size) :
    (convert src dst (.slice (some ⟨g, 0, none⟩) n c)).run P (W.alloc (.cells cs e)) = .ok (S (ns.map fun n => UInt8.ofNat n.toNat)) (W.alloc (.cells cs e)) := by
  subst hn hg
  have := run_convert_bytes_arg (P := P) (W.alloc (.cells cs e)) src e hs he W.heap.size 0 ns.length c ns rfl (fun i hi => by
    rw [cell_of_row _ _ _ cs e (0, 0) (heap_alloc_new W _), Nat.zero_add, ← Array.getElem?_toList, hcs, List.getElem?_map, List.getD_eq_getElem?_getD, List.getElem?_eq_getElem hi]
    rfl) dst hd
  rw [this]
  rfl

/-- 'append(b, s...)', s a text. -/
theorem wpList_app_str {P : Program} {w : World} {ops : Array Oper} {rest : List Oper} {o : Oper} {a : Act} {Q : Exit → Act → World → Prop} {t tS e : TypeId} {base c : Nat} {A : Option Addr} {l : List UInt8}
    (ht : P.underlying t = some (.slice e)) (hS : P.underlying tS = some .string) (hinfo : (P.info? e).map (fun i => (i.zero, i.size, i.bytes)) = some (some (.int .u8 0), 1, 1)) (hgd : o.guard = none) (s x : Operand)
    (ho : o.op = .call { callee := .builtin .append, args := #[s, x], argTypes := #[t, tS] })
    (hs : a.eval s = .slice A l.length c) (hown : OwnL encB w base e A c l) (m : List UInt8) (hx : a.eval x = S m) (hb : l.length + m.length ≤ 140737488355328) (hbase : base ≤ w.heap.size)
    (k : ∀ A' c' w', OwnL encB w' base e A' c' (l ++ m) → w.grownBy w' (Value.slice A l.length c).ownBlock → Below base w w' → wpList P ops Q rest (a.put o.dst (.slice A' (l.length + m.length) c')) w') :
    wpList P ops Q (o :: rest) a w := by
  obtain ⟨i, hi, hz, hz1, hz2⟩ := info_parts hinfo
  have e1 : (⟨m.toArray⟩ : ByteArray).size = m.length := ba_size m
  refine Lib.wpList_append_own_string w hgd s x t tS ho base e i ht hS hi hz hz1 hz2 _ l.length _ hs hown ⟨m.toArray⟩ hx (by rw [e1]; simp only [maxLen]; omega) (by rw [e1]; exact hb) hbase ?_
  intro v' w' h1 h2 _
  rw [e1] at h1
  obtain ⟨A', cap, rfl⟩ : ∃ A' cap, v' = .slice A' (l.length + m.length) cap := by
    rcases h1.2 with ⟨h, h0⟩ | ⟨g, cap, _, rfl, _⟩
    · exact ⟨none, 0, by rw [h, h0]⟩
    · exact ⟨_, cap, rfl⟩
  have hl : (l ++ m).length = l.length + m.length := by simp
  refine k A' cap w' ?_ h2 ⟨h2.os, h2.tape, h2.output, h2.size, fun j hj => h2.block j (by omega) ?_⟩
  · unfold OwnL
    rw [hl, flat_B, List.map_append, ← flat_B]
    exact h1
  · intro hne
    cases A with
    | none => simp [Value.ownBlock] at hne
    | some g' =>
      have := (OwnL.lt hown g' rfl).1
      simp [Value.ownBlock] at hne
      omega
end Go.Larder

/- The check sum, in plain numbers: byte by byte and bit by bit. No program in sight. -/
namespace Go.Larder
set_option linter.unusedVariables false
set_option linter.unusedSimpArgs false

def cStep (n : Nat) : Nat := (n / 2) ^^^ (n % 2 * 2197175160)
def cIter : Nat → Nat → Nat
  | 0, n => n
  | k + 1, n => cIter k (cStep n)
def cByte (n : Nat) (b : UInt8) : Nat := cIter 8 (n ^^^ b.toNat)
def cFold : List UInt8 → Nat → Nat
  | [], n => n
  | b :: r, n => cFold r (cByte n b)
def crc (l : List UInt8) : Nat := 4294967295 - cFold l 4294967295

theorem cStep_lt {n : Nat} (h : n < 4294967296) : cStep n < 4294967296 := by
  unfold cStep
  have h1 : n % 2 = 0 ∨ n % 2 = 1 := by omega
  exact Nat.xor_lt_two_pow (n := 32) (by omega) (by omega)
theorem xor_u8_lt {n : Nat} (h : n < 4294967296) (b : UInt8) : n ^^^ b.toNat < 4294967296 :=
  Nat.xor_lt_two_pow (n := 32) h (by have := b.toNat_lt; omega)

/-- One bit of the reference's count. -/
def rStep (n : Nat) (b : Nat) (k : Nat) : Nat := if (n % 2 != b / 2 ^ k % 2) then (n / 2) ^^^ 2197175160 else n / 2
def rIter (b : Nat) : Nat → Nat → Nat → Nat      -- how many are left, which is next, the sum
  | 0, _, n => n
  | m + 1, k, n => rIter b m (k + 1) (rStep n b k)
theorem rStep_lt {n b k : Nat} (h : n < 4294967296) : rStep n b k < 4294967296 := by
  unfold rStep
  split
  · exact Nat.xor_lt_two_pow (n := 32) (by omega) (by omega)
  · omega
theorem cStep_rStep (n b k : Nat) : cStep (n ^^^ b / 2 ^ k) = rStep n b k ^^^ b / 2 ^ (k + 1) := by
  unfold cStep rStep
  have e1 : b / 2 ^ (k + 1) = b / 2 ^ k / 2 := by rw [Nat.pow_succ, Nat.div_div_eq_div_mul]
  rw [e1, Nat.xor_div_two]
  generalize b / 2 ^ k = c
  have h0 : (n ^^^ c) % 2 = n % 2 ^^^ c % 2 := Nat.xor_mod_two_pow (n := 1)
  rw [h0]
  have h1 : n % 2 = 0 ∨ n % 2 = 1 := by omega
  have h2 : c % 2 = 0 ∨ c % 2 = 1 := by omega
  rcases h1 with h1 | h1 <;> rcases h2 with h2 | h2 <;> simp [h1, h2, Nat.xor_assoc, Nat.xor_comm] <;> rw [← Nat.xor_assoc, Nat.xor_comm (n / 2), Nat.xor_assoc]
theorem cIter_rIter (b : Nat) : ∀ m k n, cIter m (n ^^^ b / 2 ^ k) = rIter b m k n ^^^ b / 2 ^ (k + m)
  | 0, k, n => rfl
  | m + 1, k, n => by
    rw [cIter, cStep_rStep, cIter_rIter b m (k + 1), rIter, show k + 1 + m = k + (m + 1) by omega]
theorem cByte_rIter (n : Nat) (b : UInt8) : cByte n b = rIter b.toNat 8 0 n := by
  have h := cIter_rIter b.toNat 8 0 n
  have h2 : b.toNat / 2 ^ (0 + 8) = 0 := by have := b.toNat_lt; omega
  rw [h2] at h
  simpa [cByte] using h
theorem cIter_lt : ∀ m n, n < 4294967296 → cIter m n < 4294967296
  | 0, _, h => h
  | m + 1, n, h => cIter_lt m _ (cStep_lt h)
theorem cByte_lt {n : Nat} (h : n < 4294967296) (b : UInt8) : cByte n b < 4294967296 := cIter_lt 8 _ (xor_u8_lt h b)
theorem cFold_lt : ∀ (l : List UInt8) (n : Nat), n < 4294967296 → cFold l n < 4294967296
  | [], _, h => h
  | b :: r, n, h => cFold_lt r _ (cByte_lt h b)
theorem crc_lt (l : List UInt8) : crc l < 4294967296 := by unfold crc; omega

/-- How the walk spells one step. -/
theorem cStep_walk {n : Nat} (h : n < 4294967296) : bits .xor .u32 ((n : Int) / 2) (bits .and .u32 (n : Int) 1 * 2197175160 % 4294967296) = ((cStep n : Nat) : Int) := by
  have e1 : bits .and .u32 (n : Int) 1 = ((n % 2 : Nat) : Int) := by
    have := u32_and_nat n 1 h (by omega)
    rw [Nat.and_one_is_mod] at this
    exact this
  have h1 : n % 2 = 0 ∨ n % 2 = 1 := by omega
  have e2 : ((n % 2 : Nat) : Int) * 2197175160 % 4294967296 = ((n % 2 * 2197175160 : Nat) : Int) := by omega
  rw [e1, e2, show (n : Int) / 2 = ((n / 2 : Nat) : Int) by omega, u32_xor_nat _ _ (by omega) (by omega)]
  rfl
theorem not_walk {n : Nat} (h : n < 4294967296) : bits .xor .u32 IntKind.u32.max (n : Int) = ((4294967295 - n : Nat) : Int) := by
  have e : IntKind.u32.max = ((4294967295 : Nat) : Int) := rfl
  rw [e, u32_xor_nat 4294967295 n (by omega) h]
  congr 1
  have h1 := BitVec.toNat_not (x := BitVec.ofNat 32 n)
  rw [← BitVec.allOnes_xor, BitVec.toNat_xor, BitVec.toNat_allOnes, BitVec.toNat_ofNat, Nat.mod_eq_of_lt (by omega)] at h1
  exact h1
theorem rbit_walk (m j : Nat) (x : UInt8) : ((m : Int) % 2 == IntKind.u64.wrap (((x.toNat : Int) / 2 ^ j).tmod 2)) = (m % 2 == x.toNat / 2 ^ j % 2) := by
  have e0 : ((x.toNat : Int) / 2 ^ j) = ((x.toNat / 2 ^ j : Nat) : Int) := by simp
  rw [e0]
  have hq : x.toNat / 2 ^ j < 256 := Nat.lt_of_le_of_lt (Nat.div_le_self _ _) x.toNat_lt
  generalize x.toNat / 2 ^ j = q at hq
  have e : IntKind.u64.wrap ((q : Int).tmod 2) = ((q % 2 : Nat) : Int) := by
    rw [Int.tmod_eq_emod_of_nonneg (by omega), IntWalk.u64_in _ ⟨by omega, by omega⟩]
    omega
  rw [e, Bool.eq_iff_iff]
  simp
  omega
theorem rxor_walk {m : Nat} (h : m < 4294967296) : bits .xor .u64 ((m : Int) / 2) 2197175160 = (((m / 2) ^^^ 2197175160 : Nat) : Int) := by
  rw [show (m : Int) / 2 = ((m / 2 : Nat) : Int) by omega]
  exact u64_xor_nat _ 2197175160 (by omega) (by omega)
theorem xor_walk {n : Nat} (h : n < 4294967296) (b : UInt8) : bits .xor .u32 (n : Int) (b.toNat : Int) = ((n ^^^ b.toNat : Nat) : Int) :=
  u32_xor_nat n b.toNat h (by have := b.toNat_lt; omega)



/-! Frames. -/
def be4 (n : Nat) : List UInt8 := [UInt8.ofNat (n / 16777216), UInt8.ofNat (n / 65536 % 256), UInt8.ofNat (n / 256 % 256), UInt8.ofNat (n % 256)]
def le4 (c : Nat) : List UInt8 := [UInt8.ofNat (c % 256), UInt8.ofNat (c / 256 % 256), UInt8.ofNat (c / 65536 % 256), UInt8.ofNat (c / 16777216)]
def hd4 (m : Nat) : List UInt8 := [UInt8.ofNat (m / 256), UInt8.ofNat (m % 256), UInt8.ofNat (255 - m / 256), UInt8.ofNat (255 - m % 256)]
def frameL (n : Nat) (s : List UInt8) : List UInt8 := hd4 s.length ++ s ++ le4 (crc (be4 n ++ s))
theorem frameL_len (n : Nat) (s : List UInt8) : (frameL n s).length = s.length + 8 := by (simp [frameL, hd4, le4]) <;> omega
def bigL : Nat → Nat → List UInt8
  | _, 0 => []
  | n, k + 1 => bigL (n / 256) k ++ [UInt8.ofNat (n % 256)]
theorem bigL_len : ∀ (k n : Nat), (bigL n k).length = k
  | 0, _ => rfl
  | k + 1, n => by simp [bigL, bigL_len k]
theorem bigL_4 (n : Nat) (h : n < 4294967296) : bigL n 4 = be4 n := by
  simp only [bigL, be4, Nat.div_div_eq_div_mul, List.nil_append, List.cons_append, Nat.reduceMul]
  rw [Nat.mod_eq_of_lt (show n / 16777216 < 256 by omega)]
theorem bigL_2 (m : Nat) (h : m ≤ 1000) : bigL m 2 ++ bigL (65535 - m) 2 = hd4 m := by
  simp only [bigL, hd4, List.nil_append, List.cons_append]
  rw [Nat.mod_eq_of_lt (show m / 256 < 256 by omega), show (65535 - m) / 256 % 256 = 255 - m / 256 by omega, show (65535 - m) % 256 = 255 - m % 256 by omega]
theorem not_walk8 {n : Nat} (h : n < 256) : bits .xor .u8 IntKind.u8.max (n : Int) = ((255 - n : Nat) : Int) := by
  have e : IntKind.u8.max = ((255 : Nat) : Int) := rfl
  rw [e, u8_xor_nat 255 n (by omega) h]
  congr 1
  have h1 := BitVec.toNat_not (x := BitVec.ofNat 8 n)
  rw [← BitVec.allOnes_xor, BitVec.toNat_xor, BitVec.toNat_allOnes, BitVec.toNat_ofNat, Nat.mod_eq_of_lt (by omega)] at h1
  exact h1
theorem ofNat_toNat {n : Nat} (h : n < 256) : ((UInt8.ofNat n).toNat : Int) = n := by simp; omega

/-! Recover. -/
def recLen (r : List UInt8) : Nat := (r.getD 0 0).toNat * 256 + (r.getD 1 0).toNat
def recStep (k : Nat) (r : List UInt8) : Option Nat :=
  if r.length < 8 then none else if r.length < recLen r + 8 then none else if 1000 < recLen r ∨ 2147483648 < k then none
  else if frameL k ((r.drop 4).take (recLen r)) == r.take (recLen r + 8) then some (recLen r) else none
def recGo : Nat → List UInt8 → List (List UInt8) → Nat → List (List UInt8) × Nat
  | 0, _, acc, p => (acc, p)
  | f + 1, r, acc, p => match recStep acc.length r with
    | none => (acc, p)
    | some n => recGo f (r.drop (n + 8)) (acc ++ [(r.drop 4).take n]) (p + (n + 8))
def recover (l : List UInt8) : List (List UInt8) × Nat := recGo (l.length + 1) l [] 0
theorem recLen_lt (r : List UInt8) : recLen r < 65536 := by
  have := (r.getD 0 0).toNat_lt
  have := (r.getD 1 0).toNat_lt
  unfold recLen; omega
theorem recGo_none {f k : Nat} {r : List UInt8} {acc : List (List UInt8)} {p : Nat} (hf : 0 < f) (hk : k = acc.length) (h : recStep k r = none) : recGo f r acc p = (acc, p) := by
  subst hk
  cases f with
  | zero => omega
  | succ f => rw [recGo, h]
theorem recGo_some {f k n : Nat} {r : List UInt8} {acc : List (List UInt8)} {p : Nat} (hf : 0 < f) (hk : k = acc.length) (h : recStep k r = some n) : recGo f r acc p = recGo (f - 1) (r.drop (n + 8)) (acc ++ [(r.drop 4).take n]) (p + (n + 8)) := by
  subst hk
  cases f with
  | zero => omega
  | succ f => rw [recGo, h]; rfl
theorem or_walk (a b : UInt8) : bits .or .i64 ((a.toNat : Int) * 256) (b.toNat : Int) = ((a.toNat * 256 + b.toNat : Nat) : Int) := by
  have ha := a.toNat_lt
  have hb := b.toNat_lt
  have h1 : (BitVec.ofInt 64 ((a.toNat : Int) * 256)).toNat = a.toNat * 256 := by
    rw [show ((a.toNat : Int) * 256) = ((a.toNat * 256 : Nat) : Int) by omega, BitVec.ofInt_natCast, BitVec.toNat_ofNat]
    exact Nat.mod_eq_of_lt (by omega)
  have h2 : (BitVec.ofInt 64 (b.toNat : Int)).toNat = b.toNat := by
    rw [BitVec.ofInt_natCast, BitVec.toNat_ofNat]
    exact Nat.mod_eq_of_lt (by omega)
  have h3 : a.toNat * 256 ||| b.toNat = a.toNat * 256 + b.toNat := by
    have := Nat.two_pow_add_eq_or_of_lt (i := 8) hb a.toNat
    rw [show a.toNat * 256 = 2 ^ 8 * a.toNat by omega]
    exact this.symm
  show IntKind.i64.wrap ((BitVec.ofInt 64 ((a.toNat : Int) * 256) ||| BitVec.ofInt 64 (b.toNat : Int)).toNat : Int) = _
  rw [BitVec.toNat_or, h1, h2, h3, IntWalk.i64_in _ ⟨by omega, by omega⟩]

theorem recGo_len : ∀ (f : Nat) (r : List UInt8) (acc : List (List UInt8)) (p : Nat), acc.length ≤ 2147483649 → (recGo f r acc p).1.length ≤ 2147483649
  | 0, _, _, _, h => h
  | f + 1, r, acc, p, h => by
    rw [recGo]
    split
    · exact h
    · rename_i n hs
      apply recGo_len
      have : acc.length ≤ 2147483648 := by
        unfold recStep at hs
        split at hs
        · cases hs
        · split at hs
          · cases hs
          · split at hs
            · cases hs
            · omega
      simp; omega
theorem recover_len (l : List UInt8) : (recover l).1.length ≤ 2147483649 := recGo_len _ _ _ _ (by simp)

/-! ### Frame at any number, Write. -/
def frameE (n : Int) (s : List UInt8) : Except Int (List UInt8) := if n < 0 ∨ 2147483648 < n then .error 1 else if 1000 < s.length then .error 2 else .ok (frameL n.toNat s)
def writeGo : Nat → List (List UInt8) → List UInt8 → Except Int (List UInt8)
  | _, [], acc => .ok acc
  | k, s :: r, acc => match frameE (k : Int) s with
    | .error n => .error n
    | .ok f => writeGo (k + 1) r (acc ++ f)
def writeL (l : List (List UInt8)) : Except Int (List UInt8) := writeGo 0 l []
theorem writeGo_big {k : Nat} {s : List UInt8} {r : List (List UInt8)} {acc : List UInt8} (hk : k ≤ 2147483648) (hs : 1000 < s.length) : writeGo k (s :: r) acc = .error 2 := by
  rw [writeGo, frameE, if_neg (by omega), if_pos hs]
theorem writeGo_ok {k : Nat} {s : List UInt8} {r : List (List UInt8)} {acc : List UInt8} (hk : k ≤ 2147483648) (hs : ¬ 1000 < s.length) : writeGo k (s :: r) acc = writeGo (k + 1) r (acc ++ frameL k s) := by
  rw [writeGo, frameE, if_neg (by omega), if_neg hs]
  simp
theorem frameE_len {n : Int} {s f : List UInt8} (h : frameE n s = .ok f) : f.length ≤ 1008 := by
  unfold frameE at h
  split at h
  · cases h
  · split at h
    · cases h
    · cases h; rw [frameL_len]; omega
theorem writeGo_len : ∀ (l : List (List UInt8)) (k : Nat) (acc out : List UInt8), writeGo k l acc = .ok out → out.length ≤ acc.length + 1008 * l.length
  | [], _, _, _, h => by cases h; simp
  | s :: r, k, acc, out, h => by
    rw [writeGo] at h
    split at h
    · cases h
    · rename_i f hf
      have h1 := frameE_len hf
      have h2 := writeGo_len r _ _ _ h
      simp at h2 ⊢; omega
end Go.Larder

/- Digests of texts: the plain law. No program in sight. -/
namespace Go.Larder
set_option linter.unusedSimpArgs false
set_option linter.unusedVariables false
abbrev M32 : Nat := 4294967296
/-- turned to the right -/
def rotr (x k : Nat) : Nat := x / 2 ^ k ||| x * 2 ^ (32 - k) % 4294967296
theorem rotr_lt {x : Nat} (k : Nat) (h : x < 4294967296) : rotr x k < 4294967296 :=
  Nat.or_lt_two_pow (n := 32) (Nat.lt_of_le_of_lt (Nat.div_le_self _ _) h) (Nat.mod_lt _ (by omega))
theorem xor_lt32 {x y : Nat} (h : x < 4294967296) (h2 : y < 4294967296) : x ^^^ y < 4294967296 := Nat.xor_lt_two_pow (n := 32) h h2
structure OkV (n : Nat) (v : List Nat) : Prop where
  len : v.length = n
  lt : ∀ x ∈ v, x < 4294967296
theorem OkV.get {n : Nat} {v : List Nat} (h : OkV n v) (j : Nat) : v.getD j 0 < 4294967296 := by
  rw [List.getD_eq_getElem?_getD]
  cases hx : v[j]? with
  | none => simp
  | some x => exact h.lt x (List.mem_of_getElem? hx)
theorem OkV.set {n : Nat} {v : List Nat} (h : OkV n v) (j : Nat) {x : Nat} (hx : x < 4294967296) : OkV n (v.set j x) :=
  ⟨by rw [List.length_set, h.len], fun y hy => by
    rcases List.mem_or_eq_of_mem_set hy with hy | rfl
    · exact h.lt y hy
    · exact hx⟩
/-- the numbers, step by step -/
def st1 (v : List Nat) (a b x : Nat) : List Nat := v.set a ((v.getD a 0 + (v.getD b 0 + x) % 4294967296) % 4294967296)
def st2 (v : List Nat) (d a r : Nat) : List Nat := v.set d (rotr (v.getD d 0 ^^^ v.getD a 0) r)
def st3 (v : List Nat) (c d : Nat) : List Nat := v.set c ((v.getD c 0 + v.getD d 0) % 4294967296)
theorem OkV.st1 {n : Nat} {v : List Nat} (h : OkV n v) (a b x : Nat) : OkV n (st1 v a b x) := h.set _ (Nat.mod_lt _ (by omega))
theorem OkV.st2 {n : Nat} {v : List Nat} (h : OkV n v) (d a r : Nat) : OkV n (st2 v d a r) := h.set _ (rotr_lt _ (xor_lt32 (h.get _) (h.get _)))
theorem OkV.st3 {n : Nat} {v : List Nat} (h : OkV n v) (c d : Nat) : OkV n (st3 v c d) := h.set _ (Nat.mod_lt _ (by omega))
def half (v : List Nat) (a b c d x r1 r2 : Nat) : List Nat := st2 (st3 (st2 (st1 v a b x) d a r1) c d) b c r2
theorem OkV.half {n : Nat} {v : List Nat} (h : OkV n v) (a b c d x r1 r2 : Nat) : OkV n (half v a b c d x r1 r2) := ((((h.st1 a b x).st2 d a r1).st3 c d).st2 b c r2)
def mixV (v : List Nat) (a b c d x y : Nat) : List Nat := Go.Larder.half (Go.Larder.half v a b c d x 16 12) a b c d y 8 7
theorem OkV.mixV {n : Nat} {v : List Nat} (h : OkV n v) (a b c d x y : Nat) : OkV n (mixV v a b c d x y) := (h.half a b c d x 16 12).half a b c d y 8 7
def ivN : List Nat := [1779033703, 3144134277, 1013904242, 2773480762, 1359893119, 2600822924, 528734635, 1541459225]
theorem ivN_ok : OkV 8 ivN := ⟨rfl, by decide⟩
def sigN : List (List Nat) := [[0, 1, 2, 3, 4, 5, 6, 7, 8, 9, 10, 11, 12, 13, 14, 15], [14, 10, 4, 8, 9, 15, 13, 6, 1, 12, 0, 2, 11, 7, 5, 3], [11, 8, 12, 0, 5, 2, 15, 13, 10, 14, 3, 6, 7, 1, 9, 4], [7, 9, 3, 1, 13, 12, 11, 14, 2, 6, 5, 10, 4, 0, 15, 8], [9, 0, 5, 7, 2, 4, 10, 15, 14, 1, 11, 12, 6, 8, 3, 13], [2, 12, 6, 10, 0, 11, 8, 3, 4, 13, 7, 5, 15, 14, 1, 9], [12, 5, 1, 15, 14, 13, 4, 10, 0, 7, 6, 3, 9, 2, 8, 11], [13, 11, 7, 14, 12, 1, 3, 9, 5, 0, 15, 4, 8, 6, 2, 10], [6, 15, 14, 9, 11, 3, 0, 8, 12, 2, 13, 7, 1, 4, 10, 5], [10, 2, 8, 4, 7, 6, 1, 5, 15, 11, 9, 14, 3, 12, 13, 0]]
theorem sig_ok : ∀ l ∈ sigN, l.length = 16 ∧ ∀ x ∈ l, x < 16 := by decide
def plA (i : Nat) : Nat := i % 4
def plB (i : Nat) : Nat := 4 + (i + i / 4) % 4
def plC (i : Nat) : Nat := 8 + (i + 2 * (i / 4)) % 4
def plD (i : Nat) : Nat := 12 + (i + 3 * (i / 4)) % 4
/-- the words of a block -/
def byteN (b : List UInt8) (j : Nat) : Nat := (b.getD j 0).toNat
theorem byteN_lt (b : List UInt8) (j : Nat) : byteN b j < 256 := (b.getD j 0).toNat_lt
def wd (b : List UInt8) (i : Nat) : Nat := byteN b (4 * i) + byteN b (4 * i + 1) * 256 + byteN b (4 * i + 2) * 65536 + byteN b (4 * i + 3) * 16777216
theorem wd_lt (b : List UInt8) (i : Nat) : wd b i < 4294967296 := by
  have h0 := byteN_lt b (4 * i); have h1 := byteN_lt b (4 * i + 1); have h2 := byteN_lt b (4 * i + 2); have h3 := byteN_lt b (4 * i + 3)
  unfold wd; omega
def part (b : List UInt8) (i : Nat) : Nat → Nat
  | 0 => 0
  | k + 1 => part b i k ||| (byteN b (4 * i + k) * 2 ^ (8 * k)) % 4294967296
theorem or_step {x y k : Nat} (h : x < 2 ^ k) : x ||| y * 2 ^ k = x + y * 2 ^ k := by
  have := Nat.shiftLeft_add_eq_or_of_lt h y
  rw [Nat.shiftLeft_eq] at this
  rw [Nat.or_comm, ← this, Nat.add_comm]
theorem or_8 {x y : Nat} (h : x < 256) : x ||| y * 256 = x + y * 256 := or_step (k := 8) h
theorem or_16 {x y : Nat} (h : x < 65536) : x ||| y * 65536 = x + y * 65536 := or_step (k := 16) h
theorem or_24 {x y : Nat} (h : x < 16777216) : x ||| y * 16777216 = x + y * 16777216 := or_step (k := 24) h
theorem part_1 (b : List UInt8) (i : Nat) : part b i 1 = byteN b (4 * i) := by
  have h0 := byteN_lt b (4 * i)
  show (0 ||| (byteN b (4 * i + 0) * 2 ^ 0) % 4294967296) = _
  rw [Nat.zero_or, Nat.pow_zero, Nat.mul_one, Nat.add_zero, Nat.mod_eq_of_lt (by omega)]
theorem part_2 (b : List UInt8) (i : Nat) : part b i 2 = byteN b (4 * i) + byteN b (4 * i + 1) * 256 := by
  have h0 := byteN_lt b (4 * i); have h1 := byteN_lt b (4 * i + 1)
  show (part b i 1 ||| (byteN b (4 * i + 1) * 256) % 4294967296) = _
  rw [part_1, Nat.mod_eq_of_lt (by omega), or_8 (by omega)]
theorem part_3 (b : List UInt8) (i : Nat) : part b i 3 = byteN b (4 * i) + byteN b (4 * i + 1) * 256 + byteN b (4 * i + 2) * 65536 := by
  have h0 := byteN_lt b (4 * i); have h1 := byteN_lt b (4 * i + 1); have h2 := byteN_lt b (4 * i + 2)
  show (part b i 2 ||| (byteN b (4 * i + 2) * 65536) % 4294967296) = _
  rw [part_2, Nat.mod_eq_of_lt (by omega), or_16 (by omega)]
theorem part_4 (b : List UInt8) (i : Nat) : part b i 4 = wd b i := by
  have h0 := byteN_lt b (4 * i); have h1 := byteN_lt b (4 * i + 1); have h2 := byteN_lt b (4 * i + 2); have h3 := byteN_lt b (4 * i + 3)
  show (part b i 3 ||| (byteN b (4 * i + 3) * 16777216) % 4294967296) = _
  rw [part_3, Nat.mod_eq_of_lt (by omega), or_24 (by omega)]
  rfl
theorem part_lt (b : List UInt8) (i : Nat) : ∀ k, part b i k < 4294967296
  | 0 => by simp [part]
  | k + 1 => Nat.or_lt_two_pow (n := 32) (part_lt b i k) (Nat.mod_lt _ (by omega))
def words (b : List UInt8) : List Nat := (List.range 16).map (wd b)
theorem words_get (b : List UInt8) {j : Nat} (h : j < 16) : (words b).getD j 0 = wd b j := by
  unfold words
  rw [List.getD_eq_getElem?_getD, List.getElem?_map, List.getElem?_range h, Option.map_some, Option.getD_some]
def mixAt (b : List UInt8) (l : List Nat) (i : Nat) (v : List Nat) : List Nat := mixV v (plA i) (plB i) (plC i) (plD i) (wd b (l.getD (2 * i) 0)) (wd b (l.getD (2 * i + 1) 0))
def lineGo (b : List UInt8) (l : List Nat) : Nat → Nat → List Nat → List Nat
  | 0, _, v => v
  | n + 1, i, v => lineGo b l n (i + 1) (mixAt b l i v)
def allGo (b : List UInt8) : List (List Nat) → List Nat → List Nat
  | [], v => v
  | l :: r, v => allGo b r (lineGo b l 8 0 v)
theorem OkV.mixAt {v : List Nat} {n : Nat} (h : OkV n v) (b : List UInt8) (l : List Nat) (i : Nat) : OkV n (mixAt b l i v) := h.mixV _ _ _ _ _ _
theorem OkV.lineGo {n : Nat} (b : List UInt8) (l : List Nat) : ∀ (k i : Nat) {v : List Nat}, OkV n v → OkV n (lineGo b l k i v)
  | 0, _, _, h => h
  | k + 1, i, _, h => OkV.lineGo b l k (i + 1) (h.mixAt b l i)
theorem OkV.allGo {n : Nat} (b : List UInt8) : ∀ (l : List (List Nat)) {v : List Nat}, OkV n v → OkV n (allGo b l v)
  | [], _, h => h
  | l :: r, _, h => OkV.allGo b r (h.lineGo b l 8 0)
def startV (h : List Nat) (many : Nat) (last : Bool) : List Nat :=
  let v0 := h ++ ivN
  let v1 := v0.set 12 (v0.getD 12 0 ^^^ many % 4294967296)
  let v2 := v1.set 13 (v1.getD 13 0 ^^^ many / 4294967296 % 4294967296)
  if last then v2.set 14 (4294967295 - v2.getD 14 0) else v2
theorem OkV.app {n m : Nat} {v u : List Nat} (h : OkV n v) (h2 : OkV m u) : OkV (n + m) (v ++ u) :=
  ⟨by rw [List.length_append, h.len, h2.len], fun x hx => by
    rcases List.mem_append.1 hx with hx | hx
    · exact h.lt x hx
    · exact h2.lt x hx⟩
theorem OkV.startV {h : List Nat} (ho : OkV 8 h) (many : Nat) (last : Bool) : OkV 16 (startV h many last) := by
  have h0 : OkV 16 (h ++ ivN) := ho.app ivN_ok
  have h1 := h0.set 12 (x := (h ++ ivN).getD 12 0 ^^^ many % 4294967296) (xor_lt32 (h0.get _) (Nat.mod_lt _ (by omega)))
  have h2 := h1.set 13 (x := ((h ++ ivN).set 12 ((h ++ ivN).getD 12 0 ^^^ many % 4294967296)).getD 13 0 ^^^ many / 4294967296 % 4294967296) (xor_lt32 (h1.get _) (Nat.mod_lt _ (by omega)))
  unfold Go.Larder.startV
  cases last
  · exact h2
  · exact h2.set 14 (by omega)
def endGo (v : List Nat) : Nat → Nat → List Nat → List Nat
  | 0, _, h => h
  | n + 1, i, h => endGo v n (i + 1) (h.set i (h.getD i 0 ^^^ (v.getD i 0 ^^^ v.getD (i + 8) 0)))
theorem OkV.endGo {n m : Nat} {v : List Nat} (hv : OkV m v) : ∀ (k i : Nat) {h : List Nat}, OkV n h → OkV n (endGo v k i h)
  | 0, _, _, h => h
  | k + 1, i, _, h => OkV.endGo hv k (i + 1) (h.set i (xor_lt32 (h.get _) (xor_lt32 (hv.get _) (hv.get _))))
def blockN (h : List Nat) (b : List UInt8) (many : Nat) (last : Bool) : List Nat := endGo (allGo b sigN (startV h many last)) 8 0 h
theorem blockN_of {h : List Nat} {b : List UInt8} {many : Nat} {last : Bool} {v : List Nat} (hv : allGo b sigN (startV h many last) = v) : blockN h b many last = endGo v 8 0 h := by subst hv; rfl
theorem OkV.blockN {h : List Nat} (ho : OkV 8 h) (b : List UInt8) (many : Nat) (last : Bool) : OkV 8 (blockN h b many last) := OkV.endGo ((ho.startV many last).allGo b sigN) 8 0 ho
def padB (b : List UInt8) : List UInt8 := b ++ List.replicate (64 - b.length) 0
def digGo (h : List Nat) (at_ : Nat) (r : List UInt8) : List Nat :=
  if hr : r.length ≤ 64 then blockN h (padB r) (at_ + r.length) true else digGo (blockN h (r.take 64) (at_ + 64) false) (at_ + 64) (r.drop 64)
termination_by r.length
decreasing_by simp only [List.length_drop]; omega
theorem digGo_last {h : List Nat} {k : Nat} {r : List UInt8} (hr : r.length ≤ 64) : digGo h k r = blockN h (padB r) (k + r.length) true := by rw [digGo, dif_pos hr]
theorem digGo_more {h : List Nat} {k : Nat} {r : List UInt8} (hr : ¬ r.length ≤ 64) : digGo h k r = digGo (blockN h (r.take 64) (k + 64) false) (k + 64) (r.drop 64) := by rw [digGo, dif_neg hr]
def startH : List Nat := ivN.set 0 (ivN.getD 0 0 ^^^ 16842784)
theorem startH_ok : OkV 8 startH := ivN_ok.set 0 (by decide)
def digN (s : List UInt8) : List Nat := digGo startH 0 s
def digL (s : List UInt8) : List UInt8 := (digN s).flatMap le4
/-- what a hash that has taken 'all' in keeps -/
structure DgAt (all : List UInt8) (h : List Nat) (many : Nat) (rest : List UInt8) : Prop where
  ok : OkV 8 h
  sum : many + rest.length = all.length
  eq : ∀ t, digGo startH 0 (all ++ t) = digGo h many (rest ++ t)
theorem DgAt.start : DgAt [] startH 0 [] := ⟨startH_ok, rfl, fun t => rfl⟩
theorem DgAt.more {all rest s : List UInt8} {h : List Nat} {many : Nat} (hd : DgAt all h many rest) : DgAt (all ++ s) h many (rest ++ s) :=
  ⟨hd.ok, by have := hd.sum; simp only [List.length_append]; omega, fun t => by rw [List.append_assoc, List.append_assoc]; exact hd.eq (s ++ t)⟩
theorem DgAt.step {all rest : List UInt8} {h : List Nat} {many : Nat} (hd : DgAt all h many rest) (hr : 64 < rest.length) : DgAt all (blockN h (rest.take 64) (many + 64) false) (many + 64) (rest.drop 64) :=
  ⟨hd.ok.blockN _ _ _, by have := hd.sum; simp only [List.length_drop]; omega, fun t => by
    rw [hd.eq t, digGo_more (by rw [List.length_append]; omega), List.take_append_of_le_length (by omega), List.drop_append_of_le_length (by omega)]⟩
theorem DgAt.fin {all rest : List UInt8} {h : List Nat} {many : Nat} (hd : DgAt all h many rest) (hr : rest.length ≤ 64) : digN all = blockN h (padB rest) (many + rest.length) true := by
  have := hd.eq []
  rw [List.append_nil, List.append_nil] at this
  unfold digN
  rw [this, digGo_last hr]
theorem digN_ok (s : List UInt8) : OkV 8 (digN s) := by
  unfold digN
  suffices ∀ (n : Nat) (h : List Nat) (k : Nat) (r : List UInt8), r.length ≤ n → OkV 8 h → OkV 8 (digGo h k r) from this s.length startH 0 s (Nat.le_refl _) startH_ok
  intro n
  induction n with
  | zero => intro h k r hr ho; rw [digGo_last (by omega)]; exact ho.blockN _ _ _
  | succ n ih =>
    intro h k r hr ho
    by_cases h64 : r.length ≤ 64
    · rw [digGo_last h64]; exact ho.blockN _ _ _
    · rw [digGo_more h64]
      exact ih _ _ _ (by simp only [List.length_drop]; omega) (ho.blockN _ _ _)
theorem digL_len (s : List UInt8) : (digL s).length = 32 := by
  have h := (digN_ok s).len
  unfold digL
  rw [List.length_flatMap]
  have : ∀ l : List Nat, (l.map fun a => (le4 a).length).sum = 4 * l.length := by
    intro l
    induction l with
    | nil => rfl
    | cons x l ih => rw [List.map_cons, List.sum_cons, ih, List.length_cons]; simp [le4]; omega
  rw [this, h]
end Go.Larder

/- Digests: lists that grow. No program in sight. -/
namespace Go.Larder
set_option linter.unusedSimpArgs false
set_option linter.unusedVariables false
theorem set_mid {l : List Nat} {i p q : Nat} {r : List Nat} (h : l.length = i) : (l ++ p :: r).set i q = l ++ q :: r := by subst h; simp
theorem words_len (b : List UInt8) : (words b).length = 16 := by simp [words]
theorem words_at (b : List UInt8) {i : Nat} (h : i < 16) : (words b)[i]? = some (wd b i) := by
  unfold words
  rw [List.getElem?_map, List.getElem?_range h]
  rfl
theorem words_step (b : List UInt8) {i : Nat} (h : i < 16) : (words b).take i ++ Go.Larder.part b i 4 :: List.replicate (15 - i) 0 = (words b).take (i + 1) ++ List.replicate (16 - (i + 1)) 0 := by
  rw [part_4, List.take_add_one, words_at b h, show 16 - (i + 1) = 15 - i from by omega]
  simp
theorem words_all (b : List UInt8) : (words b).take 16 ++ List.replicate (16 - 16) 0 = words b := by
  rw [List.take_of_length_le (by rw [words_len]; exact Nat.le_refl _)]
  simp
theorem words_ok (b : List UInt8) : OkV 16 (words b) := ⟨words_len b, fun x hx => by
  unfold words at hx
  obtain ⟨k, _, rfl⟩ := List.mem_map.1 hx
  exact wd_lt b k⟩
end Go.Larder

/- Digests: the reference's square roots. No program in sight. -/
namespace Go.Larder
set_option linter.unusedSimpArgs false
set_option linter.unusedVariables false
def upN (m : Nat) : Nat := m / 4294967296 * (m / 4294967296) + m / 4294967296 * (m % 4294967296) / 2147483648
def loN (m : Nat) : Nat := m / 4294967296 * (m % 4294967296) * 8589934592 % 18446744073709551616 / 4294967296 + m % 4294967296 * (m % 4294967296) / 4294967296
def rootGo (p : Nat) : Nat → Nat → Nat → Nat
  | 0, low, _ => low
  | n + 1, low, high => if high - low > 1 then (if p ≤ upN ((low + high) / 2) + loN ((low + high) / 2) / 4294967296 then rootGo p n low ((low + high) / 2) else rootGo p n ((low + high) / 2) high) else low
def rootN (p : Nat) : Nat := rootGo p 35 4294967296 21474836480 % 4294967296
theorem root_2 : rootN 2 = 1779033703 := by kernel_rfl
theorem root_3 : rootN 3 = 3144134277 := by kernel_rfl
theorem root_5 : rootN 5 = 1013904242 := by kernel_rfl
theorem root_7 : rootN 7 = 2773480762 := by kernel_rfl
theorem root_11 : rootN 11 = 1359893119 := by kernel_rfl
theorem root_13 : rootN 13 = 2600822924 := by kernel_rfl
theorem root_17 : rootN 17 = 528734635 := by kernel_rfl
theorem root_19 : rootN 19 = 1541459225 := by kernel_rfl
theorem root_end {p n low high : Nat} (h : ¬ high - low > 1) : rootGo p n low high = low := by
  cases n with
  | zero => rfl
  | succ n => rw [rootGo, if_neg h]
end Go.Larder

/- A struct in a box: read whole; a result in a box. No program in sight. -/
namespace Go.Larder
open Go.RowKit
set_option linter.unusedVariables false
set_option linter.unusedSimpArgs false
theorem run_loadVar_cells {P : Program} (w : World) (g : Nat) (ty : TypeId) (vs : List Value) (d : TypeDesc) (hc : ∀ j v, vs[j]? = some v → w.cell? ⟨g, j, none⟩ = some v)
    (hu : P.underlying ty = some d) (hd : (match d with | .struct _ | .array _ _ => true | _ => false) = true) (hi : (P.info? ty).map (·.size) = some vs.length) :
    (loadVar ty ⟨g, 0, none⟩).run P w = .ok (.agg vs.toArray) w := by
  have hl : (loadCells ⟨g, 0, none⟩ vs.length).run P w = .ok vs.toArray w :=
    run_loadCells_list (P := P) w ⟨g, 0, none⟩ vs (fun j v hv => by
      have hadd : (⟨g, 0, none⟩ : Addr).add j = ⟨g, j, none⟩ := by unfold Addr.add; split <;> simp_all
      rw [hadd]
      exact hc j v hv)
  cases hq : P.info? ty with
  | none => simp [hq] at hi
  | some i =>
    have hs : i.size = vs.length := by simpa [hq] using hi
    have hagg : (isAgg ty).run P w = .ok true w := by
      unfold isAgg
      rw [Sem.run_bind, run_underlying hu w]
      cases d <;> simp_all
    simp [loadVar, Sem.run_bind, hagg, sizeOf, typeInfo, hq, hs, hl]
theorem results_box2 {P : Program} {fn : Func} {p u : Tmp} {ty : TypeId} (h : fn.results = #[.cell p ty, .tmp u]) (tmps : Array Value) (w : World) (g : Nat) (vs : List Value) (d : TypeDesc)
    (hp : tmps.getD p undef = .pointer (some ⟨g, 0, none⟩)) (hc : ∀ j v, vs[j]? = some v → w.cell? ⟨g, j, none⟩ = some v)
    (hu : P.underlying ty = some d) (hd : (match d with | .struct _ | .array _ _ => true | _ => false) = true) (hi : (P.info? ty).map (·.size) = some vs.length) :
    (results fn tmps).run P w = .ok (.tuple #[.agg vs.toArray, tmps.getD u undef]) w := by
  rw [results_cell_tmp h, hp]
  simp [asAddr, run_loadVar_cells w g ty vs d hc hu hd hi, Result.andThen]
theorem stored3 {w : World} {g : Nat} {x y z a b c : Value} (h0 : w.cell? ⟨g, 0, none⟩ = some a) (h1 : w.cell? ⟨g, 1, none⟩ = some b) (h2 : w.cell? ⟨g, 2, none⟩ = some c) :
    ∀ j v, [x, y, z][j]? = some v → (((w.setCell ⟨g, 0, none⟩ x).setCell ⟨g, 1, none⟩ y).setCell ⟨g, 2, none⟩ z).cell? ⟨g, j, none⟩ = some v := by
  intro j v hv
  have hj : j < [x, y, z].length := (List.getElem?_eq_some_iff.1 hv).1
  have := World.cell?_setCells_in g [x, y, z] 0 w (fun j hj => by
    rcases j with _ | _ | _ | j
    · simp [h0]
    · simp [h1]
    · simp [h2]
    · (simp at hj; omega)) j hj
  rw [Nat.zero_add] at this
  rw [(List.getElem?_eq_some_iff.1 hv).2] at this
  exact this
theorem below_stored3 {w0 w : World} {B g : Nat} {x y z : Value} (h : Below B w0 w) (hB : B ≤ g) : Below B w0 (((w.setCell ⟨g, 0, none⟩ x).setCell ⟨g, 1, none⟩ y).setCell ⟨g, 2, none⟩ z) :=
  ((h.setCell (p := ⟨g, 0, none⟩) hB _).setCell (p := ⟨g, 1, none⟩) hB _).setCell (p := ⟨g, 2, none⟩) hB _
end Go.Larder

/- A block of cells that the call made, known whole: read, kept, stored into; results that lie in it. No program in sight. -/
namespace Go.Larder
open Go.RowKit
set_option linter.unusedVariables false
set_option linter.unusedSimpArgs false
/-- Block g holds the cells cs. -/
def BoxAt (w : World) (g : Nat) (t : TypeId) (cs : List Value) : Prop := w.heap[g]? = some (.cells cs.toArray t (0, 0))
section
variable {w w' : World} {g : Nat} {t : TypeId} {cs : List Value}
theorem BoxAt.new (w : World) (cs : List Value) (t : TypeId) : BoxAt (w.alloc (.cells cs.toArray t)) w.heap.size t cs := heap_alloc_new w _
theorem BoxAt.lt (h : BoxAt w g t cs) : g < w.heap.size := by
  rcases Nat.lt_or_ge g w.heap.size with h' | h'
  · exact h'
  · unfold BoxAt at h; rw [Array.getElem?_eq_none h'] at h; cases h
theorem BoxAt.kept {B : Nat} (h : BoxAt w g t cs) (hb : Below B w w') (hg : g < B) : BoxAt w' g t cs := (hb.block g hg).trans h
theorem BoxAt.keep (h : BoxAt w g t cs) (hb : Below w.heap.size w w') : BoxAt w' g t cs := h.kept hb h.lt
theorem BoxAt.cell (h : BoxAt w g t cs) {j : Nat} {v : Value} (hv : cs[j]? = some v) : w.cell? ⟨g, j, none⟩ = some v := by
  rw [cell_of_row w g j cs.toArray t (0, 0) h]; simpa using hv
theorem BoxAt.free (h : BoxAt w g t cs) (j : Nat) : w.frozen? ⟨g, j, none⟩ = false := by
  unfold BoxAt at h
  simp [World.frozen?, h]
theorem BoxAt.alloc (h : BoxAt w g t cs) (o : Obj) : BoxAt (w.alloc o) g t cs := h.kept ((Below.refl (g + 1) w).alloc h.lt o) (by omega)
theorem BoxAt.drew (h : BoxAt w g t cs) : BoxAt w.drew g t cs := h
theorem BoxAt.set (h : BoxAt w g t cs) (j : Nat) (v : Value) : BoxAt (w.setCell ⟨g, j, none⟩ v) g t (cs.set j v) := by
  have := heap_setCell_same w g j cs.toArray t v h
  unfold BoxAt
  rw [this]
  simp
theorem BoxAt.setOther (h : BoxAt w g t cs) (a : Addr) (ha : g ≠ a.block) (v : Value) : BoxAt (w.setCell a v) g t cs := (heap_setCell_other w a g v ha).trans h
theorem BoxAt.all (h : BoxAt w g t cs) : ∀ j v, cs[j]? = some v → w.cell? ⟨g, j, none⟩ = some v := fun _ _ hv => h.cell hv
end
theorem results_cell_tmp2 {fn : Func} {p u v : Tmp} {ty : TypeId} (h : fn.results = #[.cell p ty, .tmp u, .tmp v]) (tmps : Array Value) (P : Program) (w : World) :
    (results fn tmps).run P w =
      ((asAddr (tmps.getD p undef)).run P w).andThen fun a w₁ => ((loadVar ty a).run P w₁).andThen fun x w₂ => .ok (.tuple #[x, tmps.getD u undef, tmps.getD v undef]) w₂ := by
  simp only [results, h]
  simp [Sem.run_bind, Result.andThen]
/-- Three results, the first one in a box. -/
theorem results_box3 {P : Program} {fn : Func} {p u v : Tmp} {ty : TypeId} (h : fn.results = #[.cell p ty, .tmp u, .tmp v]) (tmps : Array Value) (w : World) (g : Nat) (vs : List Value) (d : TypeDesc)
    (hp : tmps.getD p undef = .pointer (some ⟨g, 0, none⟩)) (hc : ∀ j v, vs[j]? = some v → w.cell? ⟨g, j, none⟩ = some v)
    (hu : P.underlying ty = some d) (hd : (match d with | .struct _ | .array _ _ => true | _ => false) = true) (hi : (P.info? ty).map (·.size) = some vs.length) :
    (results fn tmps).run P w = .ok (.tuple #[.agg vs.toArray, tmps.getD u undef, tmps.getD v undef]) w := by
  have hl := run_loadVar_cells w g ty vs d hc hu hd hi
  rw [results_cell_tmp2 h, hp]
  simp [asAddr, hl, Result.andThen]
end Go.Larder

/- A range over a function, its rounds met within the iterator's walk: nothing is asked of the caller's state. -/
namespace Go.Larder
open Go Go.RowKit
set_option linter.unusedVariables false
variable {F : Fence} {n : Nat} {P : Program}
/-- A loop's record, by its state and its pending jump. -/
abbrev RecOf := LoopState → Option Code → Loop
/-- What a round's body leaves: the record as it was laid; and R of the world in which the round is over. -/
def rndPost (l : Nat) (rc : RecOf) (R : Ending → World → Prop) : Exit → Act → World → Prop
  | .normal, _, W => W.heap[l]? = some (.loop (rc .busy none)) ∧ R (.returned (.bool true)) (W.putObj l (.loop (rc .ready none)))
  | .ret, _, W => W.heap[l]? = some (.loop (rc .busy none)) ∧ R (.returned (.bool false)) (W.putObj l (.loop (rc .done (some .ret))))
  | .exit id, _, W => W.heap[l]? = some (.loop (rc .busy none)) ∧ R (.returned (.bool false)) (W.putObj l (.loop (rc .done (some (.exit id)))))
  | .goto t, _, W => W.heap[l]? = some (.loop (rc .busy none)) ∧ R (.returned (.bool false)) (W.putObj l (.loop (rc .done (some (.goto t)))))
  | .panic _, _, _ => False
  | .outgrown, _, _ => False
theorem range_raw {α : Type} {g : Operand} {ps : Array Tmp} {assign body : Code} {Q : Exit → Act → World → Prop} {a : Act} {w : World}
    (hro : F.round = none) (h1 : 1 ≤ n) {gf : Nat} {lb : Array Value} (hg : a.eval g = .func (.func gf) #[] lb) (hFg : F.fn gf) (eg : ∀ args w, (callFunc gf args).run P w = .ok (.enter gf args) w)
    {encs : α → Array Value} (hps : ∀ x, (encs x).size = ps.size)
    (hit : ∀ (rc : RecOf) (W1 : World), (w.alloc (.deferred (some []))).alloc (.loop (rc .ready none)) = W1 →
      W1.heap[w.heap.size + 1]? = some (.loop (rc .ready none)) → W1.heap[w.heap.size]? = some (.deferred (some [])) → Below w.heap.size w W1 →
      (∀ (x : α) (W : World) (R : Ending → World → Prop), W.heap[w.heap.size + 1]? = some (.loop (rc .ready none)) →
        assign.wpIn (F.inRound (w.heap.size + 1)) (n - 1 - 1) P (Exit.then (fun a' W' => W'.heap[w.heap.size + 1]? = some (.loop (rc .ready none)) ∧
          body.wpIn (F.inRound (w.heap.size + 1)) (n - 1 - 1) P (rndPost (w.heap.size + 1) rc R) a' (W'.putObj (w.heap.size + 1) (.loop (rc .busy none)))) (fun _ _ _ => False))
          { tmps := (ps.zip (encs x)).foldl (fun t (p, v) => t.setIfInBounds p v) a.tmps, defers := [] } W →
        YieldAt F (n - 1 - 1) P (w.heap.size + 1) (encs x) W R) →
      CallsIn F (n - 1) P gf (#[.func (.yield (w.heap.size + 1)) #[] #[]] ++ lb) W1 fun e W' => (∃ v, e = .returned v) ∧
        ((W'.heap[w.heap.size + 1]? = some (.loop (rc .ready none)) ∧ Q .normal { a with defers := { target := .collected w.heap.size, args := #[] } :: a.defers } (W'.putObj (w.heap.size + 1) (.loop (rc .exhausted none)))) ∨
         (∃ c, W'.heap[w.heap.size + 1]? = some (.loop (rc .done (some c))) ∧ c.wpIn F n P Q { a with defers := { target := .collected w.heap.size, args := #[] } :: a.defers } (W'.putObj (w.heap.size + 1) (.loop (rc .exhausted (some c))))))) :
    (Code.rangeFunc g ps assign body).wpIn F n P Q a w := by
  refine wpIn_rangeFunc ?_
  intro fn hfn
  rw [hro]
  obtain ⟨rc, hrc⟩ : ∃ rc : RecOf, rc = fun st pe => { state := st, pending := pe, fn, tmps := a.tmps, params := ps, assign, body, defers := w.heap.size } := ⟨_, rfl⟩
  have hL : ((w.alloc (.deferred (some []))).alloc (.loop (rc .ready none))).heap[w.heap.size + 1]? = some (.loop (rc .ready none)) := by
    have := World.alloc_heap_new (w.alloc (.deferred (some []))) (.loop (rc .ready none)); rwa [World.size_alloc] at this
  have hD : ((w.alloc (.deferred (some []))).alloc (.loop (rc .ready none))).heap[w.heap.size]? = some (.deferred (some [])) :=
    (Below.heap_alloc _ _ _ (by simp)).trans (World.alloc_heap_new w _)
  have hB : Below w.heap.size w ((w.alloc (.deferred (some []))).alloc (.loop (rc .ready none))) := ((Below.refl _ w).alloc (Nat.le_refl _) _).alloc (by simp) _
  refine ⟨w.heap.size + 1, [{ target := .collected w.heap.size, args := #[] }], (w.alloc (.deferred (some []))).alloc (.loop (rc .ready none)), { target := .fn (.func gf) lb, args := #[.func (.yield (w.heap.size + 1)) #[] #[]] }, (w.alloc (.deferred (some []))).alloc (.loop (rc .ready none)), gf,
    #[.func (.yield (w.heap.size + 1)) #[] #[]] ++ lb, (w.alloc (.deferred (some []))).alloc (.loop (rc .ready none)), ?_, ?_, ?_, ?_, fun _ => h1, ?_⟩
  · rw [hrc]; exact run_enterLoop_outer _ _ _ _ _
  · simp only [resolve, hg]
    simp [go_sem]
  · intro f' hf'; simp [Target.leads] at hf'; subst hf'; exact hFg
  · simp [invoke, go_sem, eg]
  · refine (hit rc _ rfl hL hD hB ?_).mono ?_
    · intro x W R hl hw
      have hy := run_yield (P := P) (args := encs x) hl (by rw [hrc]; exact hps x)
      rw [hrc] at hy
      refine ⟨fn, _, assign, body, hy, roundIn_of_wpIn hfn ?_⟩
      refine wpIn_mono hw ?_
      rintro e a' W' hp
      cases e with
      | normal =>
        obtain ⟨hl', hb⟩ := hp
        refine ⟨_, run_beginRound hl' (by rw [hrc]), ?_⟩
        have e1 : (Obj.loop { rc .ready none with state := .busy }) = .loop (rc .busy none) := by rw [hrc]
        rw [e1]
        refine wpIn_mono hb ?_
        have fin : ∀ (jump : Option Code) (W3 : World), W3.heap[w.heap.size + 1]? = some (.loop (rc .busy none)) →
            (Instr.endRound (w.heap.size + 1) jump).run P W3 = .ok (.bool jump.isNone) (W3.putObj (w.heap.size + 1) (.loop (rc (if jump.isNone then .ready else .done) jump))) := fun jump W3 h3 => by
          have := run_endRound (P := P) jump h3
          rw [hrc] at this ⊢
          exact this
        rintro e a3 W3 hq
        cases e with
        | normal => exact ⟨_, _, fin none W3 hq.1, hq.2⟩
        | ret => exact ⟨_, _, fin (some .ret) W3 hq.1, hq.2⟩
        | exit id => exact ⟨_, _, fin (some (.exit id)) W3 hq.1, hq.2⟩
        | goto t => exact ⟨_, _, fin (some (.goto t)) W3 hq.1, hq.2⟩
        | panic ch => exact hq.elim
        | outgrown => exact hq.elim
      | ret => exact hp
      | exit id => exact hp
      | goto t => exact hp
      | panic ch => exact hp
      | outgrown => exact hp
    · rintro e W2 ⟨⟨v, rfl⟩, (⟨hl, hq⟩ | ⟨c, hl, hq⟩)⟩
      · have := run_endLoop (P := P) hl (by rw [hrc]; simp)
        refine ⟨none, _, by rw [hrc] at this; exact this, ?_⟩
        have e1 : (Obj.loop { state := .exhausted, pending := none, fn := fn, tmps := a.tmps, params := ps, assign := assign, body := body, defers := w.heap.size }) = .loop (rc .exhausted none) := by rw [hrc]
        rw [hrc] at hq
        exact hq
      · have := run_endLoop (P := P) hl (by rw [hrc]; simp)
        refine ⟨some c, _, by rw [hrc] at this; exact this, ?_⟩
        rw [hrc] at hq
        exact hq
end Go.Larder

/- Within a fence: elements appended from a block laid for them; what a loop's record leaves as it is. -/
namespace Go.Larder
open Go Go.RowKit
set_option linter.unusedVariables false
set_option linter.unusedSimpArgs false
section
variable {F : Fence} {n : Nat} {P : Program} {w : World} {ops : Array Oper} {rest : List Oper} {o : Oper} {a : Act} {Q : Exit → Act → World → Prop} {t e : TypeId} {bytes : Nat} {α : Type} {base c : Nat} {A : Option Addr} {l : List α}
theorem wpListIn_app (E : ElemT α) (T : SlT P t e E.size bytes) (news : List α) (hgd : o.guard = none) (s x : Operand)
    (ho : o.op = .call { callee := .builtin .append, args := #[s, x], argTypes := #[t, t] })
    (hs : a.eval s = .slice A l.length c) (hown : OwnL E w base e A c l) (cs : Array Value) (hcs : cs.toList = news.flatMap E.enc) (m : Nat) (hm : news.length = m + 1)
    (hx : a.eval x = .slice (some ⟨w.heap.size, 0, none⟩) (m + 1) (m + 1)) (hb : (l.length + (m + 1)) * bytes ≤ 140737488355328) (h63 : l.length + (m + 1) ≤ maxLen) (hbase : base ≤ w.heap.size)
    (k : ∀ g c' w', OwnL E w' base e (some ⟨g, 0, none⟩) c' (l ++ news) → Below base w w' → wpListIn F n P ops Q rest (a.put o.dst (.slice (some ⟨g, 0, none⟩) (l.length + (m + 1)) c')) w') :
    wpListIn F n P ops Q (o :: rest) a (w.alloc (.cells cs e)) := by
  obtain ⟨i, z, hi, hz, hz1, hz2, hz3⟩ := T.info
  have hlen : news.length = m + 1 := hm
  refine wpListIn_append_own _ hgd s x t ho base e i z E.size bytes T.ht hi hz hz1 hz2 hz3 E.pos (.slice A l.length c) l.length (l.flatMap E.enc) hs (World.ownsRow.alloc hown _) ⟨w.heap.size, 0, none⟩ (m + 1) (m + 1) (news.flatMap E.enc) hx
    (by rw [E.length_flatMap, hlen]) ?_ (E.one_flatMap news) h63 hb (by simp; omega) ?_
  · intro j u hj
    exact World.news_of_block (heap_alloc_new w (.cells cs e)) j u (by rw [hcs]; exact hj)
  · intro v' w' h1 h2 _
    obtain ⟨g, cap, rfl⟩ : ∃ g cap, v' = .slice (some ⟨g, 0, none⟩) (l.length + (m + 1)) cap := by
      rcases h1.2 with ⟨_, h0⟩ | ⟨g, cap, _, rfl, _⟩
      · omega
      · exact ⟨g, cap, rfl⟩
    have hl : (l ++ news).length = l.length + (m + 1) := by simp [hlen]
    have hg2 : w.grownBy w' (Value.slice A l.length c).ownBlock :=
      ⟨h2.os, h2.tape, h2.output, Nat.le_trans (by simp) h2.size, fun i hi hne => (h2.block i (by simp; omega) hne).trans (Below.heap_alloc w _ i hi)⟩
    refine k g cap w' ?_ ⟨h2.os, h2.tape, h2.output, Nat.le_trans (by simp) h2.size, fun i hi => hg2.block i (by omega) ?_⟩
    · unfold OwnL
      rw [hl, List.flatMap_append]
      exact h1
    · intro hne
      cases A with
      | none => simp [Value.ownBlock] at hne
      | some g' =>
        have := (OwnL.lt hown g' rfl).1
        simp [Value.ownBlock] at hne
        omega
end
theorem run_loadVar_one {P : Program} {w : World} {g : Nat} {ty : TypeId} {d : TypeDesc} {v : Value} (hc : w.cell? ⟨g, 0, none⟩ = some v) (hu : P.underlying ty = some d) (hd : (match d with | .struct _ | .array _ _ => true | _ => false) = false) : (loadVar ty ⟨g, 0, none⟩).run P w = .ok v w := by
  have hagg : (isAgg ty).run P w = .ok false w := by
    unfold isAgg
    rw [Sem.run_bind, run_underlying hu w]
    cases d <;> simp_all
  simp [loadVar, Sem.run_bind, hagg, go_sem, hc, Result.andThen]
theorem results_cc {P : Program} {fn : Func} {p q : Tmp} {t1 t2 : TypeId} (h : fn.results = #[.cell p t1, .cell q t2]) {tmps : Array Value} {w : World} {g1 g2 : Nat} {v1 v2 : Value} {d1 d2 : TypeDesc}
    (hp : tmps.getD p undef = .pointer (some ⟨g1, 0, none⟩)) (hq : tmps.getD q undef = .pointer (some ⟨g2, 0, none⟩)) (h1 : w.cell? ⟨g1, 0, none⟩ = some v1) (h2 : w.cell? ⟨g2, 0, none⟩ = some v2)
    (u1 : P.underlying t1 = some d1) (e1 : (match d1 with | .struct _ | .array _ _ => true | _ => false) = false) (u2 : P.underlying t2 = some d2) (e2 : (match d2 with | .struct _ | .array _ _ => true | _ => false) = false) :
    (results fn tmps).run P w = .ok (.tuple #[v1, v2]) w := by
  have l1 := run_loadVar_one (P := P) h1 u1 e1
  have l2 := run_loadVar_one (P := P) h2 u2 e2
  rw [Array.getD_eq_getD_getElem?] at hp hq
  simp [results, h, hp, hq, asAddr, Sem.run_bind, l1, l2, Result.andThen]
theorem below_put {B : Nat} {a w : World} (h : Below B a w) (r : Nat) (o : Obj) (hr : B ≤ r) : Below B a (w.putObj r o) :=
  ⟨h.os, h.tape, h.output, by rw [World.putObj_size]; exact h.size, fun k hk => (World.putObj_heap_other (by omega)).trans (h.block k hk)⟩
theorem BoxAt.put {w : World} {g : Nat} {t : TypeId} {cs : List Value} (h : BoxAt w g t cs) (r : Nat) (o : Obj) (hr : g ≠ r) : BoxAt (w.putObj r o) g t cs := (World.putObj_heap_other hr).trans h
theorem OwnL.put {α : Type} {E : ElemT α} {w : World} {B c : Nat} {e : TypeId} {A : Option Addr} {l : List α} (h : OwnL E w B e A c l) (r : Nat) (o : Obj) (hr : r < B) : OwnL E (w.putObj r o) B e A c l :=
  h.keep fun g hg => World.putObj_heap_other (by have := (h.lt g hg).1; omega)
end Go.Larder

/- Appending a whole slice; a slice's head; a pair stored. No program in sight. -/
namespace Go.Larder
open Go.RowKit Go.WideShapes
set_option linter.unusedVariables false
set_option linter.unusedSimpArgs false

section
variable {P : Program} {w : World} {ops : Array Oper} {rest : List Oper} {o : Oper} {a : Act} {Q : Exit → Act → World → Prop} {t e : TypeId} {size bytes : Nat} {α : Type} {base c : Nat} {A A' : Option Addr} {l : List α}

theorem flat_at (E : ElemT α) (news : List α) (j : Nat) (u : Value) (h : (news.flatMap E.enc)[j]? = some u) : ∃ k r x, j = k * E.size + r ∧ news[k]? = some x ∧ (E.enc x)[r]? = some u := by
  have hp := E.pos
  have hj : j < news.length * E.size := by
    have := (List.getElem?_eq_some_iff.1 h).1
    rwa [E.length_flatMap] at this
  have hk : j / E.size < news.length := Nat.div_lt_of_lt_mul (by rw [Nat.mul_comm]; exact hj)
  have hr : j % E.size < E.size := Nat.mod_lt _ hp
  have hx := List.getElem?_eq_getElem hk
  have hu : (E.enc news[j / E.size])[j % E.size]? = some ((E.enc news[j / E.size])[j % E.size]'(by rw [E.len]; exact hr)) := List.getElem?_eq_getElem _
  have hsum : j = j / E.size * E.size + j % E.size := by rw [Nat.mul_comm]; exact (Nat.div_add_mod j E.size).symm
  have := E.get_flatMap news _ _ _ _ hx hu
  rw [← hsum, h] at this
  injection this with this
  exact ⟨_, _, _, hsum, hx, by rw [hu, this]⟩

/-- 'append(s, xs...)': xs reads as a list. -/
theorem wpList_app_sl (E : ElemT α) (T : SlT P t e E.size bytes) (news : List α) (hgd : o.guard = none) (s x : Operand)
    (ho : o.op = .call { callee := .builtin .append, args := #[s, x], argTypes := #[t, t] })
    (hs : a.eval s = .slice A l.length c) (hown : OwnL E w base e A c l) {B c' : Nat} {ad : Addr} (hx : a.eval x = .slice (some ad) news.length c') (hr : ReadL E w B (some ad) news)
    (hb : (l.length + news.length) * bytes ≤ 140737488355328) (h63 : l.length + news.length ≤ maxLen) (hbase : base ≤ w.heap.size)
    (k : ∀ A2 c2 w', OwnL E w' base e A2 c2 (l ++ news) → Below base w w' → wpList P ops Q rest (a.put o.dst (.slice A2 (l.length + news.length) c2)) w') :
    wpList P ops Q (o :: rest) a w := by
  obtain ⟨i, z, hi, hz, hz1, hz2, hz3⟩ := T.info
  refine wpList_append_own _ hgd s x t ho base e i z E.size bytes T.ht hi hz hz1 hz2 hz3 E.pos (.slice A l.length c) l.length (l.flatMap E.enc) hs hown ad news.length c' (news.flatMap E.enc) hx
    (by rw [E.length_flatMap]) ?_ (E.one_flatMap news) h63 hb hbase ?_
  · intro j u hj
    obtain ⟨k', r, y, rfl, hy, hu⟩ := flat_at E news j u hj
    obtain ⟨b', off', hA, _, hc⟩ := hr (by have := (List.getElem?_eq_some_iff.1 hy).1; omega)
    injection hA with hA
    subst hA
    rw [add_plain, ← Nat.add_assoc]
    exact hc k' y hy r u hu
  · intro v' w' h1 h2 _
    obtain ⟨A2, c2, rfl⟩ : ∃ A2 c2, v' = .slice A2 (l.length + news.length) c2 := by
      rcases h1.2 with ⟨hv, h0⟩ | ⟨g, cap, _, rfl, _⟩
      · exact ⟨none, 0, by rw [hv, h0]⟩
      · exact ⟨_, cap, rfl⟩
    refine k A2 c2 w' ?_ ⟨h2.os, h2.tape, h2.output, h2.size, fun i hi => h2.block i (by omega) ?_⟩
    · unfold OwnL
      rw [List.length_append, List.flatMap_append]
      exact h1
    · intro hne
      cases A with
      | none => simp [Value.ownBlock] at hne
      | some g' =>
        have := (OwnL.lt hown g' rfl).1
        simp [Value.ownBlock] at hne
        omega
end

theorem OwnL.le_cap {α : Type} {E : ElemT α} {w : World} {base : Nat} {e : TypeId} {A : Option Addr} {c : Nat} {l : List α} (h : OwnL E w base e A c l) : l.length ≤ c := by
  obtain ⟨_, h2⟩ := h
  rcases h2 with ⟨hv, h0⟩ | ⟨g, cap, cur, hv, _, _, hnc, _⟩
  · omega
  · injection hv with _ _ hc
    omega

/-- The head of an own row. -/
theorem OwnL.take {α : Type} {E : ElemT α} {w : World} {base : Nat} {e : TypeId} {A : Option Addr} {c : Nat} {l : List α} (h : OwnL E w base e A c l) (i : Nat) (hi : i ≤ l.length) : OwnL E w base e A c (l.take i) := by
  obtain ⟨h1, h2⟩ := h
  have hli : (l.take i).length = i := by rw [List.length_take]; omega
  have hfl : (l.take i).flatMap E.enc = (l.flatMap E.enc).take (i * E.size) := by
    have : l.flatMap E.enc = (l.take i).flatMap E.enc ++ (l.drop i).flatMap E.enc := by rw [← List.flatMap_append, List.take_append_drop]
    rw [this, List.take_left' (by rw [E.length_flatMap, hli])]
  refine ⟨by rw [E.length_flatMap], ?_⟩
  rcases h2 with ⟨hv, h0⟩ | ⟨g, cap, cur, hv, hg, hh, hnc, hcm, hcs, hcur⟩
  · injection hv with hA hl hc
    exact .inl ⟨by rw [hA, hc, hli]; congr 1; omega, by omega⟩
  · injection hv with hA hl hc
    refine .inr ⟨g, cap, cur, by rw [hA, hc], hg, hh, by omega, hcm, hcs, ?_⟩
    rw [hli, hfl, ← hcur, List.take_take]
    congr 1
    rw [Nat.min_eq_left]
    exact Nat.mul_le_mul_right _ hi

theorem row_take {w : World} {base : Nat} {e : TypeId} {size : Nat} {A : Option Addr} {n c : Nat} {xs : List Value} (h : w.ownsRow base e size (.slice A n c) n xs) (i : Nat) (hi : i ≤ n) : w.ownsRow base e size (.slice A i c) i (xs.take (i * size)) := by
  obtain ⟨h1, h2⟩ := h
  have him : i * size ≤ n * size := Nat.mul_le_mul_right _ hi
  refine ⟨by rw [List.length_take]; omega, ?_⟩
  rcases h2 with ⟨hv, h0⟩ | ⟨g, cap, cur, hv, hg, hh, hnc, hcm, hcs, hcur⟩
  · injection hv with hA hl hc
    exact .inl ⟨by rw [hA, hc]; congr 1; omega, by omega⟩
  · injection hv with hA hl hc
    refine .inr ⟨g, cap, cur, by rw [hA, hc], hg, hh, by omega, hcm, hcs, ?_⟩
    rw [← hcur, List.take_take, Nat.min_eq_left him]

theorem own_setCells {base : Nat} {e : TypeId} {size g n c : Nat} : ∀ (vs : List Value) (o : Nat) (w : World) (xs : List Value), w.ownsRow base e size (.slice (some ⟨g, 0, none⟩) n c) n xs →
    ∃ xs', (w.setCells g o vs).ownsRow base e size (.slice (some ⟨g, 0, none⟩) n c) n xs' ∧ xs'.take o = xs.take o
  | [], o, w, xs, h => ⟨xs, h, rfl⟩
  | v :: vs, o, w, xs, h => by
    obtain ⟨xs', h1, h2⟩ := own_setCells vs (o + 1) _ _ (World.ownsRow.stored h o v).1
    refine ⟨xs', h1, ?_⟩
    have h3 := congrArg (List.take o) h2
    rw [List.take_take, List.take_take, Nat.min_eq_left (by omega)] at h3
    rw [h3, List.take_set_of_le (Nat.le_refl o)]

theorem below_setCells {B : Nat} : ∀ (vs : List Value) (g o : Nat) (a w : World), B ≤ g → Below B a w → Below B a (w.setCells g o vs)
  | [], _, _, _, _, _, h => h
  | v :: vs, g, o, a, w, hg, h => below_setCells vs g (o + 1) a _ hg (h.setCell (p := ⟨g, o, none⟩) hg v)

theorem flat_F : ∀ (l : List (List UInt8 × List UInt8)) (j : Nat) (x : List UInt8 × List UInt8), (l.set j x).flatMap encF.enc = ((l.flatMap encF.enc).set (j * 2) (S x.1)).set (j * 2 + 1) (S x.2)
  | [], j, x => by simp
  | y :: l, 0, x => by simp [encF]
  | y :: l, j + 1, x => by
    have := flat_F l j x
    rw [List.set_cons_succ, List.flatMap_cons, this, List.flatMap_cons]
    have he : encF.enc y = [S y.1, S y.2] := rfl
    rw [he, show (j + 1) * 2 = j * 2 + 1 + 1 from by omega]
    simp

theorem OwnL.set_F {w : World} {base : Nat} {e : TypeId} {g c : Nat} {l : List (List UInt8 × List UInt8)} (h : OwnL encF w base e (some ⟨g, 0, none⟩) c l) (j : Nat) (x : List UInt8 × List UInt8) :
    OwnL encF ((w.setCell ⟨g, j * 2, none⟩ (S x.1)).setCell ⟨g, j * 2 + 1, none⟩ (S x.2)) base e (some ⟨g, 0, none⟩) c (l.set j x) := by
  have h1 := (World.ownsRow.stored (World.ownsRow.stored h (j * 2) (S x.1)).1 (j * 2 + 1) (S x.2)).1
  unfold OwnL
  rw [flat_F, List.length_set]
  exact h1

theorem OwnL.get_F {w : World} {base : Nat} {e : TypeId} {g c j : Nat} {l : List (List UInt8 × List UInt8)} {x : List UInt8 × List UInt8} (h : OwnL encF w base e (some ⟨g, 0, none⟩) c l) (hx : l[j]? = some x) :
    w.cell? ⟨g, j * 2, none⟩ = some (S x.1) ∧ w.cell? ⟨g, j * 2 + 1, none⟩ = some (S x.2) := by
  obtain ⟨g', off', hA', _, hc0, hc1⟩ := h.read.at_F hx
  injection hA' with hA'
  injection hA' with e1 e2
  subst e1 e2
  rw [Nat.zero_add] at hc0 hc1
  exact ⟨hc0, hc1⟩

/-- 'clear(s)' at elements of two cells. -/
theorem run_clear2 {P : Program} (w : World) (t e ty : TypeId) (z : Value) (u1 u2 : Value) (ht : P.underlying t = some (.slice e)) (hv : ∀ w, (zeroValue e).run P w = .ok z w) (hz : z.cells = #[u1, u2]) (h1 : u1.oneCell' = true) (h2 : u2.oneCell' = true) (b o n c : Nat) (hn : 0 < n)
    (hc : ∀ j, j < n * 2 → (w.cell? ⟨b, o + j, none⟩).isSome = true) (hf : ∀ j, j < n * 2 → w.frozen? ⟨b, o + j, none⟩ = false) :
    ∃ vs, (Builtin.clear_ #[t] ty #[.slice (some ⟨b, o, none⟩) n c]).run P w = .ok (.tuple #[]) (w.setCells b o vs) := by
  refine ⟨(Builtin.zeroCells z.cells n).toList, ?_⟩
  have hl : (Builtin.zeroCells z.cells n).toList.length = n * 2 := by rw [hz]; simp [Builtin.zeroCells]
  have hst := run_storeCells_cells (P := P) b o (Builtin.zeroCells z.cells n).toList 0 w (by rw [hl]; simpa using hc) (by rw [hl]; simpa using hf) (by
    intro v hv'
    rw [hz] at hv'
    simp only [Builtin.zeroCells, Array.mem_toList_iff] at hv'
    obtain ⟨i, _, rfl⟩ := Array.mem_map.1 hv'
    rcases Nat.mod_two_eq_zero_or_one i with h | h
    · simp [h, h1]
    · simp [h, h2])
  simp only [Nat.add_zero] at hst
  obtain ⟨m, rfl⟩ : ∃ m, n = m + 1 := ⟨n - 1, by omega⟩
  simp [Builtin.clear_, run_underlying ht, hv, hst]

/-- The same at a step of a region that draws. -/
theorem step_app_sl {P : Program} {w : World} {ops : Array Oper} {o : Oper} {a : Act} {K : Act → World → Prop} {Q : Exit → Act → World → Prop} {Z : Prop} {t e : TypeId} {bytes : Nat} {α : Type} {base c : Nat} {A : Option Addr} {l : List α}
    (E : ElemT α) (T : SlT P t e E.size bytes) (news : List α) (hgd : o.guard = none) (s x : Operand)
    (ho : o.op = .call { callee := .builtin .append, args := #[s, x], argTypes := #[t, t] })
    (hs : a.eval s = .slice A l.length c) (hown : OwnL E w base e A c l) {B c' : Nat} {ad : Addr} (hx : a.eval x = .slice (some ad) news.length c') (hr : ReadL E w B (some ad) news)
    (hb : (l.length + news.length) * bytes ≤ 140737488355328) (h63 : l.length + news.length ≤ maxLen) (hbase : base ≤ w.heap.size)
    (k : ∀ A2 c2 w', OwnL E w' base e A2 c2 (l ++ news) → Below base w w' → K (a.put o.dst (.slice A2 (l.length + news.length) c2)) w') :
    if Region.wanted o (yielded ops a.tmps) = true then Oper.wp P o a w K Q else Z := by
  have hw : Region.wanted o (yielded ops a.tmps) = true := by simp [Region.wanted, hgd]
  rw [if_pos hw]
  obtain ⟨i, z, hi, hz, hz1, hz2, hz3⟩ := T.info
  refine wp_append_own w s x t ho base e i z E.size bytes T.ht hi hz hz1 hz2 hz3 E.pos (.slice A l.length c) l.length (l.flatMap E.enc) hs hown ad news.length c' (news.flatMap E.enc) hx
    (by rw [E.length_flatMap]) ?_ (E.one_flatMap news) h63 hb hbase ?_
  · intro j u hj
    obtain ⟨k', r, y, rfl, hy, hu⟩ := flat_at E news j u hj
    obtain ⟨b', off', hA, _, hc⟩ := hr (by have := (List.getElem?_eq_some_iff.1 hy).1; omega)
    injection hA with hA
    subst hA
    rw [add_plain, ← Nat.add_assoc]
    exact hc k' y hy r u hu
  · intro v' w' h1 h2 _
    obtain ⟨A2, c2, rfl⟩ : ∃ A2 c2, v' = .slice A2 (l.length + news.length) c2 := by
      rcases h1.2 with ⟨hv, h0⟩ | ⟨g, cap, _, rfl, _⟩
      · exact ⟨none, 0, by rw [hv, h0]⟩
      · exact ⟨_, cap, rfl⟩
    refine k A2 c2 w' ?_ ⟨h2.os, h2.tape, h2.output, h2.size, fun i hi => h2.block i (by omega) ?_⟩
    · unfold OwnL
      rw [List.length_append, List.flatMap_append]
      exact h1
    · intro hne
      cases A with
      | none => simp [Value.ownBlock] at hne
      | some g' =>
        have := (OwnL.lt hown g' rfl).1
        simp [Value.ownBlock] at hne
        omega

theorem run_append_none {P : Program} (w : World) (t ty e : TypeId) (i : TypeInfo) (ht : P.underlying t = some (.slice e)) (hi : P.info? e = some i) (A : Option Addr) (n c c' : Nat) (hnc : n ≤ c) :
    (Builtin.append_ #[t, t] ty #[.slice A n c, .slice none 0 c']).run P w = .ok (.slice A n c) w := by
  cases A with
  | none => simp [Builtin.append_, run_underlying ht, sizeOf, typeInfo, hi, Builtin.lenOf, run_firstCells_none, hnc]
  | some a => simp [Builtin.append_, run_underlying ht, sizeOf, typeInfo, hi, Builtin.lenOf, run_firstCells_none, hnc, storeCells]

/-- .. whether xs is nil or not. -/
theorem step_app_any {P : Program} {w : World} {ops : Array Oper} {o : Oper} {a : Act} {K : Act → World → Prop} {Q : Exit → Act → World → Prop} {Z : Prop} {t e : TypeId} {bytes : Nat} {α : Type} {base c : Nat} {A : Option Addr} {l : List α}
    (E : ElemT α) (T : SlT P t e E.size bytes) (news : List α) (hgd : o.guard = none) (s x : Operand)
    (ho : o.op = .call { callee := .builtin .append, args := #[s, x], argTypes := #[t, t] })
    (hs : a.eval s = .slice A l.length c) (hown : OwnL E w base e A c l) {B c' : Nat} {A' : Option Addr} (hx : a.eval x = .slice A' news.length c') (hr : ReadL E w B A' news)
    (hb : (l.length + news.length) * bytes ≤ 140737488355328) (h63 : l.length + news.length ≤ maxLen) (hbase : base ≤ w.heap.size)
    (k : ∀ A2 c2 w', OwnL E w' base e A2 c2 (l ++ news) → Below base w w' → K (a.put o.dst (.slice A2 (l.length + news.length) c2)) w') :
    if Region.wanted o (yielded ops a.tmps) = true then Oper.wp P o a w K Q else Z := by
  cases A' with
  | some ad => exact step_app_sl E T news hgd s x ho hs hown hx hr hb h63 hbase k
  | none =>
    have h0 : news = [] := by
      cases news with
      | nil => rfl
      | cons f l => obtain ⟨_, _, h, _⟩ := hr (by simp); cases h
    subst h0
    have hw : Region.wanted o (yielded ops a.tmps) = true := by simp [Region.wanted, hgd]
    rw [if_pos hw]
    obtain ⟨i, z, hi, hz, hz1, hz2, hz3⟩ := T.info
    have hrun := run_append_none w t o.type e i T.ht hi A l.length c c' hown.le_cap
    have hk := k A c w (by simpa using hown) (Below.refl _ _)
    unfold Oper.wp execOp
    simp only [ho, resolve, invoke, builtin, Sem.run_bind, Sem.run_pure, Result.andThen_ok, List.map_toArray, List.map_cons, List.map_nil, hs, hx, List.length_nil, hrun]
    exact hk
end Go.Larder

/- What a call leaves as it was, but for a few blocks. No program in sight. -/
namespace Go.Larder
open Go.RowKit
set_option linter.unusedVariables false
set_option linter.unusedSimpArgs false
structure SameBut (B : Nat → Prop) (w w' : World) : Prop where
  os : w'.os = w.os
  tape : w'.tape = w.tape
  output : w'.output = w.output
  size : w.heap.size ≤ w'.heap.size
  block : ∀ j, j < w.heap.size → ¬ B j → w'.heap[j]? = w.heap[j]?
variable {B B' : Nat → Prop} {w w' w'' : World}
theorem SameBut.refl (w : World) : SameBut B w w := ⟨rfl, rfl, rfl, Nat.le_refl _, fun _ _ _ => rfl⟩
theorem SameBut.mono (h : SameBut B w w') (hB : ∀ j, j < w.heap.size → B j → B' j) : SameBut B' w w' := ⟨h.os, h.tape, h.output, h.size, fun j hj hn => h.block j hj fun hb => hn (hB j hj hb)⟩
theorem SameBut.trans (h : SameBut B w w') (h2 : SameBut B' w' w'') (hB : ∀ j, j < w.heap.size → B' j → B j) : SameBut B w w'' :=
  ⟨h2.os.trans h.os, h2.tape.trans h.tape, h2.output.trans h.output, Nat.le_trans h.size h2.size, fun j hj hn => (h2.block j (Nat.lt_of_lt_of_le hj h.size) fun hb => hn (hB j hj hb)).trans (h.block j hj hn)⟩
theorem SameBut.setCell (h : SameBut B w w') (p : Addr) (v : Value) (hp : p.block < w.heap.size → B p.block) : SameBut B w (w'.setCell p v) :=
  ⟨h.os, h.tape, h.output, by simpa using h.size, fun j hj hn => (heap_setCell_other _ _ _ _ (by rintro rfl; exact hn (hp hj))).trans (h.block j hj hn)⟩
theorem SameBut.alloc (h : SameBut B w w') (o : Obj) : SameBut B w (w'.alloc o) :=
  ⟨h.os, h.tape, h.output, Nat.le_trans h.size (by simp), fun j hj hn => (Below.heap_alloc _ _ _ (Nat.lt_of_lt_of_le hj h.size)).trans (h.block j hj hn)⟩
theorem SameBut.drew (h : SameBut B w w') : SameBut B w w'.drew := ⟨h.os, h.tape, h.output, h.size, h.block⟩
theorem SameBut.drew' (h : SameBut B w.drew w') : SameBut B w w' := ⟨h.os, h.tape, h.output, h.size, h.block⟩
theorem SameBut.put (h : SameBut B w w') (r : Nat) (o : Obj) (hr : r < w.heap.size → B r) : SameBut B w (w'.putObj r o) :=
  ⟨h.os, h.tape, h.output, by simpa using h.size, fun j hj hn => (World.putObj_heap_other (by rintro rfl; exact hn (hr hj))).trans (h.block j hj hn)⟩
theorem SameBut.below {B0 : Nat} (h : SameBut B w w') (h2 : Below B0 w' w'') (hB : ∀ j, j < w.heap.size → B0 ≤ j → B j) : SameBut B w w'' :=
  ⟨h2.os.trans h.os, h2.tape.trans h.tape, h2.output.trans h.output, Nat.le_trans h.size h2.size, fun j hj hn => (h2.block j (Nat.lt_of_not_le fun hb => hn (hB j hj hb))).trans (h.block j hj hn)⟩
theorem SameBut.keep (h : SameBut B w w') (h2 : Below w'.heap.size w' w'') : SameBut B w w'' := h.below h2 fun j hj hb => absurd hb (by have := h.size; omega)
theorem SameBut.grown {row : Option Nat} (h : SameBut B w w') (h2 : w'.grownBy w'' row) (hB : ∀ j, j < w.heap.size → row = some j → B j) : SameBut B w w'' :=
  ⟨h2.os.trans h.os, h2.tape.trans h.tape, h2.output.trans h.output, Nat.le_trans h.size h2.size, fun j hj hn => (h2.block j (Nat.lt_of_lt_of_le hj h.size) fun hb => hn (hB j hj hb.symm)).trans (h.block j hj hn)⟩
theorem SameBut.toBelow {N : Nat} (h : SameBut B w w') (hN : N ≤ w.heap.size) (hB : ∀ j, j < N → ¬ B j) : Below N w w' := ⟨h.os, h.tape, h.output, h.size, fun j hj => h.block j (by omega) (hB j hj)⟩
theorem Below.same {N : Nat} (h : Below N w w') : SameBut (fun j => N ≤ j) w w' := ⟨h.os, h.tape, h.output, h.size, fun j hj hn => h.block j (by omega)⟩
theorem SameBut.box {g : Nat} {t : TypeId} {cs : List Value} (h : SameBut B w w') (hb : BoxAt w g t cs) (hg : ¬ B g) : BoxAt w' g t cs := (h.block g hb.lt hg).trans hb
theorem SameBut.own {α : Type} {E : ElemT α} {base c : Nat} {e : TypeId} {A : Option Addr} {l : List α} (h : SameBut B w w') (ho : OwnL E w base e A c l) (hn : ∀ a, A = some a → ¬ B a.block) : OwnL E w' base e A c l :=
  ho.keep fun a ha => h.block a.block (ho.lt a ha).2 (hn a ha)
/-- the block of a row -/
def blkOf (A : Option Addr) : Option Nat := A.map (·.block)
theorem OwnL.type_ {α : Type} {E : ElemT α} {base c : Nat} {e : TypeId} {A : Option Addr} {l : List α} (h : OwnL E w base e A c l) {a : Addr} (ha : A = some a) : ∃ cur, w.heap[a.block]? = some (.cells cur e (0, 0)) := by
  subst ha
  rcases h.2 with ⟨h0, _⟩ | ⟨g, cap, cur, h1, _, h2, _⟩
  · injection h0 with h0; cases h0
  · injection h1 with h1 _ _
    injection h1 with h1
    subst h1
    exact ⟨cur, h2⟩
/-- rows of two kinds of elements lie apart -/
theorem OwnL.apart {α β : Type} {E : ElemT α} {E' : ElemT β} {base c base' c' : Nat} {e e' : TypeId} {A A' : Option Addr} {l : List α} {l' : List β} (h : OwnL E w base e A c l) (h' : OwnL E' w base' e' A' c' l') (hne : e ≠ e') : ∀ a a', A = some a → A' = some a' → a.block ≠ a'.block := by
  intro a a' ha ha' hb
  obtain ⟨cur, h1⟩ := h.type_ ha
  obtain ⟨cur', h2⟩ := h'.type_ ha'
  rw [hb, h2] at h1
  injection h1 with h1
  injection h1 with _ h1 _
  exact hne h1.symm
theorem BoxAt.apart {α : Type} {E : ElemT α} {base c g : Nat} {e t : TypeId} {A : Option Addr} {l : List α} {cs : List Value} (h : OwnL E w base e A c l) (hb : BoxAt w g t cs) (hne : e ≠ t) : ∀ a, A = some a → a.block ≠ g := by
  rintro a ha rfl
  obtain ⟨cur, h1⟩ := h.type_ ha
  have h2 : w.heap[a.block]? = some (.cells cs.toArray t) := hb
  rw [h2] at h1
  injection h1 with h1
  injection h1 with _ h1 _
  exact hne h1.symm
theorem ownBlock_blk (A : Option Addr) (n c : Nat) : (Value.slice A n c).ownBlock = blkOf A := by cases A <;> rfl
theorem OwnL.alc {α : Type} {E : ElemT α} {base c : Nat} {e : TypeId} {A : Option Addr} {l : List α} (h : OwnL E w base e A c l) (o : Obj) : OwnL E (w.alloc o) base e A c l := h.keep fun a ha => Below.heap_alloc w _ _ (h.lt a ha).2
theorem OwnL.drw {α : Type} {E : ElemT α} {base c : Nat} {e : TypeId} {A : Option Addr} {l : List α} (h : OwnL E w base e A c l) : OwnL E w.drew base e A c l := h.keep fun a ha => rfl
theorem OwnL.grn {α : Type} {E : ElemT α} {base c : Nat} {e : TypeId} {A A' : Option Addr} {l : List α} (h : OwnL E w base e A c l) (hg : w.grownBy w' (blkOf A')) (hne : ∀ a a', A = some a → A' = some a' → a.block ≠ a'.block) : OwnL E w' base e A c l :=
  h.keep fun a ha => hg.block a.block (h.lt a ha).2 fun hb => by
    cases A' with
    | none => simp [blkOf] at hb
    | some a' => simp [blkOf] at hb; exact hne a a' ha rfl hb
theorem BoxAt.grn {g : Nat} {t : TypeId} {cs : List Value} {A : Option Addr} (h : BoxAt w g t cs) (hg : w.grownBy w' (blkOf A)) (hne : ∀ a, A = some a → a.block ≠ g) : BoxAt w' g t cs :=
  (hg.block g h.lt fun hb => by
    cases A with
    | none => simp [blkOf] at hb
    | some a' => simp [blkOf] at hb; exact hne a' rfl hb.symm).trans h
/-- append at a step of a region that draws: the row stays where it was or lies in a new block -/
theorem step_app_at {P : Program} {w : World} {ops : Array Oper} {o : Oper} {a : Act} {K : Act → World → Prop} {Q : Exit → Act → World → Prop} {Z : Prop} {t e : TypeId} {bytes : Nat} {α : Type} {base c : Nat} {A : Option Addr} {l : List α}
    (E : ElemT α) (T : SlT P t e E.size bytes) (news : List α) (hgd : o.guard = none) (s x : Operand)
    (ho : o.op = .call { callee := .builtin .append, args := #[s, x], argTypes := #[t, t] })
    (hs : a.eval s = .slice A l.length c) (hown : OwnL E w base e A c l) {B c' : Nat} {ad : Addr} (hx : a.eval x = .slice (some ad) news.length c') (hr : ReadL E w B (some ad) news)
    (hb : (l.length + news.length) * bytes ≤ 140737488355328) (h63 : l.length + news.length ≤ maxLen) (hbase : base ≤ w.heap.size)
    (k : ∀ A2 c2 w', OwnL E w' base e A2 c2 (l ++ news) → w.grownBy w' (blkOf A) → (blkOf A2 = blkOf A ∨ blkOf A2 = some w.heap.size) → Below base w w' → K (a.put o.dst (.slice A2 (l.length + news.length) c2)) w') :
    if Region.wanted o (yielded ops a.tmps) = true then Oper.wp P o a w K Q else Z := by
  have hw : Region.wanted o (yielded ops a.tmps) = true := by simp [Region.wanted, hgd]
  rw [if_pos hw]
  obtain ⟨i, z, hi, hz, hz1, hz2, hz3⟩ := T.info
  obtain ⟨v', w', hrun, h1, h2, _, h4⟩ := run_append_own_at (P := P) w base t o.type e i z E.size bytes T.ht hi hz hz1 hz2 hz3 E.pos (.slice A l.length c) l.length (l.flatMap E.enc) hown ad news.length c' (news.flatMap E.enc)
    (by rw [E.length_flatMap]) (by
      intro j u hj
      obtain ⟨k', r, y, rfl, hy, hu⟩ := flat_at E news j u hj
      obtain ⟨b', off', hA, _, hc⟩ := hr (by have := (List.getElem?_eq_some_iff.1 hy).1; omega)
      injection hA with hA
      subst hA
      have hadd : ∀ i, (⟨b', off', none⟩ : Addr).add i = ⟨b', off' + i, none⟩ := fun i => by unfold Addr.add; split <;> simp_all
      rw [hadd, ← Nat.add_assoc]
      exact hc k' y hy r u hu) (E.one_flatMap news) h63 hb hbase
  obtain ⟨A2, c2, rfl⟩ : ∃ A2 c2, v' = .slice A2 (l.length + news.length) c2 := by
    rcases h1.2 with ⟨hv, h0⟩ | ⟨g, cap, _, rfl, _⟩
    · exact ⟨none, 0, by rw [hv, h0]⟩
    · exact ⟨_, cap, rfl⟩
  rw [ownBlock_blk] at h2 h4
  rw [ownBlock_blk] at h4
  have hk := k A2 c2 w' (by unfold OwnL; rw [List.length_append, List.flatMap_append]; exact h1) h2 h4 ⟨h2.os, h2.tape, h2.output, h2.size, fun j hj => h2.block j (by omega) (by
    intro hne
    cases A with
    | none => simp [blkOf] at hne
    | some g' =>
      have := (OwnL.lt hown g' rfl).1
      simp [blkOf] at hne
      omega)⟩
  unfold Oper.wp execOp
  simp only [ho, resolve, invoke, builtin, Sem.run_bind, Sem.run_pure, Result.andThen_ok, List.map_toArray, List.map_cons, List.map_nil, hs, hx, hrun]
  exact hk
/-- .. whatever the lengths are written as, and where nothing is appended too -/
theorem step_app_atn {P : Program} {w : World} {ops : Array Oper} {o : Oper} {a : Act} {K : Act → World → Prop} {Q : Exit → Act → World → Prop} {Z : Prop} {t e : TypeId} {bytes : Nat} {α : Type} {base c n m : Nat} {A : Option Addr} {l : List α}
    (E : ElemT α) (T : SlT P t e E.size bytes) (news : List α) (hgd : o.guard = none) (s x : Operand)
    (ho : o.op = .call { callee := .builtin .append, args := #[s, x], argTypes := #[t, t] }) 
    (hs : a.eval s = .slice A n c) (hown : OwnL E w base e A c l) {B c' : Nat} {A' : Option Addr} (hx : a.eval x = .slice A' m c') (hr : ReadL E w B A' news) (hn : l.length = n) (hm : news.length = m)
    (hb : (l.length + news.length) * bytes ≤ 140737488355328) (h63 : l.length + news.length ≤ maxLen) (hbase : base ≤ w.heap.size)
    (k : ∀ A2 c2 w', OwnL E w' base e A2 c2 (l ++ news) → w.grownBy w' (blkOf A) → Below base w w' → K (a.put o.dst (.slice A2 (n + m) c2)) w') :
    if Region.wanted o (yielded ops a.tmps) = true then Oper.wp P o a w K Q else Z := by
  subst hn hm
  cases A' with
  | some ad => exact step_app_at E T news hgd s x ho hs hown hx hr hb h63 hbase fun A2 c2 w' h1 h2 _ h3 => k A2 c2 w' h1 h2 h3
  | none =>
    have h0 : news = [] := by
      cases news with
      | nil => rfl
      | cons f l => obtain ⟨_, _, h, _⟩ := hr (by simp); cases h
    subst h0
    have hw : Region.wanted o (yielded ops a.tmps) = true := by simp [Region.wanted, hgd]
    rw [if_pos hw]
    obtain ⟨i, z, hi, hz, hz1, hz2, hz3⟩ := T.info
    have hrun := run_append_none (P := P) w t o.type e i T.ht hi A l.length c c' hown.le_cap
    have hk := k A c w (by rw [List.append_nil]; exact hown) ⟨rfl, rfl, rfl, Nat.le_refl _, fun _ _ _ => rfl⟩ (Below.refl _ _)
    unfold Oper.wp execOp
    simp only [ho, resolve, invoke, builtin, Sem.run_bind, Sem.run_pure, Result.andThen_ok, List.map_toArray, List.map_cons, List.map_nil, hs, hx, List.length_nil, hrun]
    exact hk
/-- within a fence -/
theorem wpListIn_appG {F : Fence} {n : Nat} {P : Program} {w : World} {ops : Array Oper} {rest : List Oper} {o : Oper} {a : Act} {Q : Exit → Act → World → Prop} {t e : TypeId} {bytes : Nat} {α : Type} {base c : Nat} {A : Option Addr} {l : List α} (E : ElemT α) (T : SlT P t e E.size bytes) (news : List α) (hgd : o.guard = none) (s x : Operand)
    (ho : o.op = .call { callee := .builtin .append, args := #[s, x], argTypes := #[t, t] })
    (hs : a.eval s = .slice A l.length c) (hown : OwnL E w base e A c l) (cs : Array Value) (hcs : cs.toList = news.flatMap E.enc) (m : Nat) (hm : news.length = m + 1)
    (hx : a.eval x = .slice (some ⟨w.heap.size, 0, none⟩) (m + 1) (m + 1)) (hb : (l.length + (m + 1)) * bytes ≤ 140737488355328) (h63 : l.length + (m + 1) ≤ maxLen) (hbase : base ≤ w.heap.size)
    (k : ∀ g c' w', OwnL E w' base e (some ⟨g, 0, none⟩) c' (l ++ news) → w.grownBy w' (blkOf A) → Below base w w' → wpListIn F n P ops Q rest (a.put o.dst (.slice (some ⟨g, 0, none⟩) (l.length + (m + 1)) c')) w') :
    wpListIn F n P ops Q (o :: rest) a (w.alloc (.cells cs e)) := by
  obtain ⟨i, z, hi, hz, hz1, hz2, hz3⟩ := T.info
  have hlen : news.length = m + 1 := hm
  refine wpListIn_append_own _ hgd s x t ho base e i z E.size bytes T.ht hi hz hz1 hz2 hz3 E.pos (.slice A l.length c) l.length (l.flatMap E.enc) hs (World.ownsRow.alloc hown _) ⟨w.heap.size, 0, none⟩ (m + 1) (m + 1) (news.flatMap E.enc) hx
    (by rw [E.length_flatMap, hlen]) ?_ (E.one_flatMap news) h63 hb (by simp; omega) ?_
  · intro j u hj
    exact World.news_of_block (heap_alloc_new w (.cells cs e)) j u (by rw [hcs]; exact hj)
  · intro v' w' h1 h2 _
    obtain ⟨g, cap, rfl⟩ : ∃ g cap, v' = .slice (some ⟨g, 0, none⟩) (l.length + (m + 1)) cap := by
      rcases h1.2 with ⟨_, h0⟩ | ⟨g, cap, _, rfl, _⟩
      · omega
      · exact ⟨g, cap, rfl⟩
    have hl : (l ++ news).length = l.length + (m + 1) := by simp [hlen]
    have hg2 : w.grownBy w' (Value.slice A l.length c).ownBlock :=
      ⟨h2.os, h2.tape, h2.output, Nat.le_trans (by simp) h2.size, fun i hi hne => (h2.block i (by simp; omega) hne).trans (Below.heap_alloc w _ i hi)⟩
    refine k g cap w' ?_ (by rw [← ownBlock_blk A l.length c]; exact hg2) ⟨h2.os, h2.tape, h2.output, Nat.le_trans (by simp) h2.size, fun i hi => hg2.block i (by omega) ?_⟩
    · unfold OwnL
      rw [hl, List.flatMap_append]
      exact h1
    · intro hne
      cases A with
      | none => simp [Value.ownBlock] at hne
      | some g' =>
        have := (OwnL.lt hown g' rfl).1
        simp [Value.ownBlock] at hne
        omega
end Go.Larder

/- A text cut at a byte. No program in sight. -/
namespace Go.Larder
set_option linter.unusedVariables false
set_option linter.unusedSimpArgs false
def cut1 (c : UInt8) : List UInt8 → List UInt8 × List UInt8 × Bool
  | [] => ([], [], false)
  | b :: l => if b == c then ([], l, true) else (b :: (cut1 c l).1, (cut1 c l).2.1, (cut1 c l).2.2)
theorem cut1_none {c : UInt8} : ∀ {l : List UInt8}, Lib.indexByte l c = -1 → cut1 c l = (l, [], false)
  | [], _ => rfl
  | b :: l, h => by
    unfold Lib.indexByte at h
    unfold cut1
    cases hb : (b == c)
    · rw [hb] at h
      simp only [Bool.false_eq_true, if_false] at h ⊢
      have hi : Lib.indexByte l c = -1 := by
        have := Lib.indexByte_ge l c
        split at h
        · next h1 => simpa using h1
        · omega
      rw [cut1_none hi]
    · rw [hb] at h; simp at h
theorem cut1_at {c : UInt8} : ∀ {l : List UInt8} {k : Nat}, Lib.indexByte l c = (k : Int) → cut1 c l = (l.take k, l.drop (k + 1), true) ∧ k < l.length
  | [], k, h => by simp [Lib.indexByte] at h
  | b :: l, k, h => by
    unfold Lib.indexByte at h
    unfold cut1
    cases hb : (b == c)
    · rw [hb] at h
      simp only [Bool.false_eq_true, if_false] at h ⊢
      split at h
      · omega
      · next h1 =>
        have hge := Lib.indexByte_ge l c
        have hne : Lib.indexByte l c ≠ -1 := by simpa using h1
        obtain ⟨j, rfl⟩ : ∃ j, k = j + 1 := ⟨k - 1, by omega⟩
        obtain ⟨h2, h3⟩ := cut1_at (c := c) (l := l) (k := j) (by omega)
        rw [h2]
        exact ⟨by simp, by simp; omega⟩
    · rw [hb] at h
      simp only [if_true] at h ⊢
      obtain rfl : k = 0 := by omega
      exact ⟨by simp, by simp⟩
theorem ixb_cases (l : List UInt8) (c : UInt8) : Lib.indexByte l c = -1 ∨ ∃ k : Nat, Lib.indexByte l c = k := by
  have := Lib.indexByte_ge l c
  by_cases h : Lib.indexByte l c = -1
  · exact .inl h
  · exact .inr ⟨(Lib.indexByte l c).toNat, by omega⟩
theorem cut1_app {c : UInt8} (r : List UInt8) : ∀ {p : List UInt8}, (∀ x ∈ p, x ≠ c) → cut1 c (p ++ c :: r) = (p, r, true)
  | [], _ => by simp [cut1]
  | b :: p, h => by
    have hb : (b == c) = false := by simpa using h b (by simp)
    have ih := cut1_app (c := c) r (p := p) (fun x hx => h x (by simp [hx]))
    rw [List.cons_append]
    unfold cut1
    rw [hb, ih]
    rfl
theorem cut1_true {c : UInt8} : ∀ {l : List UInt8}, (cut1 c l).2.2 = true → l = (cut1 c l).1 ++ c :: (cut1 c l).2.1 ∧ ∀ x ∈ (cut1 c l).1, x ≠ c
  | [], h => by simp [cut1] at h
  | b :: l, h => by
    unfold cut1 at h ⊢
    cases hb : (b == c)
    · rw [hb] at h
      simp only [Bool.false_eq_true, if_false] at h ⊢
      obtain ⟨h1, h2⟩ := cut1_true h
      refine ⟨by rw [List.cons_append, ← h1], fun x hx => ?_⟩
      rcases List.mem_cons.1 hx with rfl | hx
      · simpa using hb
      · exact h2 x hx
    · simp only [if_true]
      have : b = c := by simpa using hb
      exact ⟨by simp [this], by simp⟩
theorem cut1_false {c : UInt8} : ∀ {l : List UInt8}, (cut1 c l).2.2 = false → cut1 c l = (l, [], false) ∧ ∀ x ∈ l, x ≠ c
  | [], _ => ⟨rfl, by simp⟩
  | b :: l, h => by
    unfold cut1 at h ⊢
    cases hb : (b == c)
    · rw [hb] at h
      simp only [Bool.false_eq_true, if_false] at h ⊢
      obtain ⟨h1, h2⟩ := cut1_false h
      rw [h1]
      refine ⟨rfl, fun x hx => ?_⟩
      rcases List.mem_cons.1 hx with rfl | hx
      · simpa using hb
      · exact h2 x hx
    · rw [hb] at h
      simp at h
theorem cut1_len (c : UInt8) : ∀ l : List UInt8, (cut1 c l).1.length + (cut1 c l).2.1.length ≤ l.length
  | [] => by simp [cut1]
  | b :: l => by
    have ih := cut1_len c l
    unfold cut1
    split <;> simp <;> omega
end Go.Larder

/- A text split at a byte. No program in sight. -/
namespace Go.Larder
set_option linter.unusedVariables false
set_option linter.unusedSimpArgs false

def spl (c : UInt8) : List UInt8 → List (List UInt8)
  | [] => [[]]
  | b :: l => if b == c then [] :: spl c l else match spl c l with
    | [] => [[b]]
    | p :: ps => (b :: p) :: ps
def jn (c : UInt8) : List (List UInt8) → List UInt8
  | [] => []
  | [p] => p
  | p :: q :: r => p ++ c :: jn c (q :: r)
theorem spl_some (c : UInt8) : ∀ s, ∃ p ps, spl c s = p :: ps
  | [] => ⟨_, _, rfl⟩
  | b :: l => by
    obtain ⟨p, ps, h⟩ := spl_some c l
    unfold spl
    rw [h]
    cases hb : (b == c)
    · exact ⟨b :: p, ps, by simp⟩
    · exact ⟨[], p :: ps, by simp⟩
theorem index_hitc (c : UInt8) (l : List UInt8) : Lib.index (c :: l) [c] = 0 := by
  unfold Lib.index
  simp [List.isPrefixOf]
theorem index_skipc (b c : UInt8) (l : List UInt8) (h : b ≠ c) : Lib.index (b :: l) [c] = if Lib.index l [c] == -1 then -1 else Lib.index l [c] + 1 := by
  conv => lhs; unfold Lib.index
  have : ([c] : List UInt8).isPrefixOf (b :: l) = false := by
    simp [List.isPrefixOf]
    exact fun e => h e.symm
  rw [this]
  rfl
theorem splitK_spl (c : UInt8) : ∀ s : List UInt8, Lib.splitK [c] 0 (s.count c) s = spl c s
  | [] => rfl
  | b :: l => by
    have ih := splitK_spl c l
    cases hb : (b == c)
    · have hbc : b ≠ c := by simpa using hb
      have hcnt : (b :: l).count c = l.count c := List.count_cons_of_ne hbc
      obtain ⟨p, ps, hs⟩ := spl_some c l
      have hspl : spl c (b :: l) = (b :: p) :: ps := by unfold spl; rw [hb, hs]; rfl
      rw [hcnt, hspl]
      rw [hs] at ih
      cases hk : l.count c with
      | zero =>
        rw [hk] at ih
        simp only [Lib.splitK] at ih ⊢
        injection ih with h1 h2
        rw [h1, h2]
      | succ k =>
        rw [hk] at ih
        unfold Lib.splitK at ih ⊢
        rw [index_skipc b c l hbc]
        cases hi : (Lib.index l [c] == -1)
        · rw [hi] at ih
          have hge := Lib.index_ge l [c]
          have hne : Lib.index l [c] ≠ -1 := by simpa using hi
          have e1 : ((Lib.index l [c] + 1 == -1)) = false := by simp; omega
          have e2 : (Lib.index l [c] + 1).toNat = (Lib.index l [c]).toNat + 1 := by omega
          simp only [Bool.false_eq_true, if_false, e1, e2] at ih ⊢
          injection ih with h1 h2
          rw [← h1, ← h2]
          simp [Nat.add_right_comm]
        · rw [hi] at ih
          simp only [if_true] at ih
          injection ih with h1 h2
          subst h1 h2
          simp
    · have hbc : b = c := by simpa using hb
      subst hbc
      have hcnt : (b :: l).count b = l.count b + 1 := List.count_cons_self
      rw [hcnt]
      unfold Lib.splitK
      rw [index_hitc]
      simp [spl, ih]
theorem split_spl (c : UInt8) (s : List UInt8) : Lib.split s [c] = spl c s := by
  unfold Lib.split
  rw [Lib.count_one]
  exact splitK_spl c s
theorem jn_cons (c b : UInt8) (p : List UInt8) (ps : List (List UInt8)) : jn c ((b :: p) :: ps) = b :: jn c (p :: ps) := by
  cases ps <;> simp [jn]
theorem jn_spl (c : UInt8) : ∀ s, jn c (spl c s) = s
  | [] => rfl
  | b :: l => by
    have ih := jn_spl c l
    obtain ⟨p, ps, hs⟩ := spl_some c l
    rw [hs] at ih
    unfold spl
    rw [hs]
    cases hb : (b == c)
    · simp only [Bool.false_eq_true, if_false]
      rw [jn_cons, ih]
    · have hbc : b = c := by simpa using hb
      subst hbc
      simp [jn, ih]
theorem spl_free {c : UInt8} : ∀ {p : List UInt8}, (∀ x ∈ p, x ≠ c) → spl c p = [p]
  | [], _ => rfl
  | b :: p, h => by
    unfold spl
    have hb : (b == c) = false := by simpa using h b (by simp)
    rw [spl_free (fun x hx => h x (by simp [hx])), hb]
    rfl
theorem spl_app {c : UInt8} (s : List UInt8) : ∀ {p : List UInt8}, (∀ x ∈ p, x ≠ c) → spl c (p ++ c :: s) = p :: spl c s
  | [], _ => by simp [spl]
  | b :: p, h => by
    have hb : (b == c) = false := by simpa using h b (by simp)
    have ih := spl_app (c := c) s (p := p) (fun x hx => h x (by simp [hx]))
    rw [List.cons_append]
    conv => lhs; unfold spl
    rw [ih, hb]
    rfl
theorem spl_mem {c : UInt8} : ∀ {s p : List UInt8}, p ∈ spl c s → ∀ x ∈ p, x ≠ c
  | [], p, h, x, hx => by simp [spl] at h; subst h; simp at hx
  | b :: l, p, h, x, hx => by
    obtain ⟨q, qs, hs⟩ := spl_some c l
    unfold spl at h
    rw [hs] at h
    cases hb : (b == c)
    · rw [hb] at h
      simp only [Bool.false_eq_true, if_false] at h
      rcases List.mem_cons.1 h with rfl | h
      · rcases List.mem_cons.1 hx with rfl | hx
        · simpa using hb
        · exact spl_mem (s := l) (by rw [hs]; simp) x hx
      · exact spl_mem (s := l) (by rw [hs]; simp [h]) x hx
    · rw [hb] at h
      simp only [if_true] at h
      rcases List.mem_cons.1 h with rfl | h
      · simp at hx
      · exact spl_mem (s := l) (by rw [hs]; exact h) x hx
theorem spl_jn {c : UInt8} : ∀ {ps : List (List UInt8)}, ps ≠ [] → (∀ p ∈ ps, ∀ x ∈ p, x ≠ c) → spl c (jn c ps) = ps
  | [], h, _ => absurd rfl h
  | [p], _, h => spl_free (h p (by simp))
  | p :: q :: r, _, h => by
    unfold jn
    rw [spl_app _ (h p (by simp)), spl_jn (by simp) (fun y hy => h y (List.mem_cons_of_mem _ hy))]
theorem spl_len (c : UInt8) : ∀ s : List UInt8, (spl c s).length = s.count c + 1
  | [] => rfl
  | b :: l => by
    obtain ⟨p, ps, hs⟩ := spl_some c l
    have ih := spl_len c l
    rw [hs] at ih
    unfold spl
    rw [hs]
    cases hb : (b == c)
    · have hbc : b ≠ c := by simpa using hb
      rw [List.count_cons_of_ne hbc]
      simpa using ih
    · have hbc : b = c := by simpa using hb
      subst hbc
      rw [List.count_cons_self]
      simpa using ih
theorem jn_len (c : UInt8) : ∀ (ps : List (List UInt8)), ∀ p ∈ ps, p.length ≤ (jn c ps).length
  | [], p, h => by simp at h
  | [q], p, h => by simp at h; subst h; simp [jn]
  | q :: r :: ps, p, h => by
    have ih := jn_len c (r :: ps)
    unfold jn
    rcases List.mem_cons.1 h with rfl | h
    · simp
    · have := ih p h
      simp at this ⊢
      omega
theorem spl_mem_len {c : UInt8} {s p : List UInt8} (h : p ∈ spl c s) : p.length ≤ s.length := by
  have := jn_len c (spl c s) p h
  rwa [jn_spl] at this
end Go.Larder

/- append onto a full slice: the result lies in a new row. No program in sight. -/
namespace Go.Larder
open Go.RowKit
set_option linter.unusedSimpArgs false
set_option linter.unusedVariables false
theorem wpList_app_full {P : Program} {w : World} {ops : Array Oper} {rest : List Oper} {o : Oper} {a : Act} {Q : Exit → Act → World → Prop} {t e : TypeId} {bytes c : Nat} {α : Type} {l : List α}
    (E : ElemT α) (T : SlT P t e E.size bytes) (news : List α) (hgd : o.guard = none) (s x : Operand)
    (ho : o.op = .call { callee := .builtin .append, args := #[s, x], argTypes := #[t, t] }) (b off : Nat)
    (hs : a.eval s = .slice (some ⟨b, off, none⟩) l.length c) (hr : ReadL E w w.heap.size (some ⟨b, off, none⟩) l) (cs : Array Value) (hcs : cs.toList = news.flatMap E.enc) (m : Nat) (hm : news.length = m + 1)
    (hx : a.eval x = .slice (some ⟨w.heap.size, 0, none⟩) (m + 1) (m + 1)) (hfull : c < l.length + (m + 1)) (hb : (l.length + (m + 1)) * bytes ≤ 140737488355328) (h63 : l.length + (m + 1) ≤ maxLen)
    (k : ∀ g c' w', OwnL E w' (w.heap.size + 1) e (some ⟨g, 0, none⟩) c' (l ++ news) → Below w.heap.size w w' → wpList P ops Q rest (a.put o.dst (.slice (some ⟨g, 0, none⟩) (l.length + (m + 1)) c')) w') :
    wpList P ops Q (o :: rest) a (w.alloc (.cells cs e)) := by
  obtain ⟨i, z, hi, hz, hz1, hz2, hz3⟩ := T.info
  have hr2 := hr.alloc (Nat.le_refl _) (.cells cs e)
  refine wpList_append_grows _ hgd s x t ho e i z E.size bytes T.ht hi hz hz1 hz2 hz3 E.pos (some ⟨b, off, none⟩) l.length c (l.flatMap E.enc) hs (fun h => by cases h) (E.length_flatMap l) ?_
    ⟨w.heap.size, 0, none⟩ (m + 1) (m + 1) (news.flatMap E.enc) hx (by rw [E.length_flatMap, hm]) ?_ (E.one_flatMap news) hfull h63 hb ?_
  · intro ad hA j u hj
    injection hA with hA
    subst hA
    obtain ⟨k, r, y, rfl, hy, hu⟩ := flat_at E l j u hj
    obtain ⟨b', off', hA2, _, hc⟩ := hr2.at_ hy
    injection hA2 with hA2
    injection hA2 with h1 h2
    subst h1 h2
    have hadd : ∀ i, (⟨b, off, none⟩ : Addr).add i = ⟨b, off + i, none⟩ := fun i => by unfold Addr.add; split <;> simp_all
    rw [hadd, ← Nat.add_assoc]
    exact hc r u hu
  · intro j u hj
    exact World.news_of_block (heap_alloc_new w (.cells cs e)) j u (by rw [hcs]; exact hj)
  · intro v' w' h1 h2
    have hsz : (w.alloc (.cells cs e)).heap.size = w.heap.size + 1 := by simp
    obtain ⟨g, cap, rfl⟩ : ∃ g cap, v' = .slice (some ⟨g, 0, none⟩) (l.length + (m + 1)) cap := by
      rcases h1.2 with ⟨_, h0⟩ | ⟨g, cap, _, rfl, _⟩
      · omega
      · exact ⟨g, cap, rfl⟩
    have hl : (l ++ news).length = l.length + (m + 1) := by simp [hm]
    refine k g cap w' ?_ ⟨h2.os, h2.tape, h2.output, Nat.le_trans (by simp) h2.size, fun i hi => (h2.block i (by simp; omega) (by simp)).trans (Below.heap_alloc w _ i hi)⟩
    unfold OwnL
    rw [hl, List.flatMap_append, ← hsz]
    exact h1

theorem wpList_app_any {P : Program} {w : World} {ops : Array Oper} {rest : List Oper} {o : Oper} {a : Act} {Q : Exit → Act → World → Prop} {t e : TypeId} {bytes : Nat} {α : Type} {base c : Nat} {A : Option Addr} {l : List α}
    (E : ElemT α) (T : SlT P t e E.size bytes) (news : List α) (hgd : o.guard = none) (s x : Operand)
    (ho : o.op = .call { callee := .builtin .append, args := #[s, x], argTypes := #[t, t] })
    (hs : a.eval s = .slice A l.length c) (hown : OwnL E w base e A c l) {B c' : Nat} {A' : Option Addr} (hx : a.eval x = .slice A' news.length c') (hr : ReadL E w B A' news)
    (hb : (l.length + news.length) * bytes ≤ 140737488355328) (h63 : l.length + news.length ≤ maxLen) (hbase : base ≤ w.heap.size)
    (k : ∀ A2 c2 w', OwnL E w' base e A2 c2 (l ++ news) → Below base w w' → wpList P ops Q rest (a.put o.dst (.slice A2 (l.length + news.length) c2)) w') :
    wpList P ops Q (o :: rest) a w := by
  cases A' with
  | some ad => exact wpList_app_sl E T news hgd s x ho hs hown hx hr hb h63 hbase k
  | none =>
    have h0 : news = [] := by
      cases news with
      | nil => rfl
      | cons f l => obtain ⟨_, _, h, _⟩ := hr (by simp); cases h
    subst h0
    obtain ⟨i, z, hi, hz, hz1, hz2, hz3⟩ := T.info
    have hrun := run_append_none w t o.type e i T.ht hi A l.length c c' hown.le_cap
    have hk := k A c w (by simpa using hown) (Below.refl _ _)
    refine wpList_plain hgd fun K hK => ?_
    have hk2 := hK _ _ hk
    unfold Oper.wp execOp
    simp only [ho, resolve, invoke, builtin, Sem.run_bind, Sem.run_pure, Result.andThen_ok, List.map_toArray, List.map_cons, List.map_nil, hs, hx, List.length_nil, hrun]
    exact hk2
end Go.Larder

/- Plain law: piles: what put, get, drop do, by the texts that were put. -/
namespace Go.Larder
abbrev Txt := List UInt8
def addD (out : List Txt) (s : Txt) : List Txt := if s ∈ out then out else out ++ [s]
/-- each one once -/
def distT (l : List Txt) : List Txt := l.foldl addD []
def sumT (l : List Txt) : Nat := (l.map List.length).sum
def usedT (l : List Txt) : Nat := sumT (distT l)
def manyT (l : List Txt) : Nat := (distT l).length
def InjT (nm : Txt → Txt) (l : List Txt) : Prop := ∀ s ∈ l, ∀ t ∈ l, nm s = nm t → s = t
theorem sumT_cons (t : Txt) (l : List Txt) : sumT (t :: l) = t.length + sumT l := by simp [sumT]
theorem sumT_append (a b : List Txt) : sumT (a ++ b) = sumT a + sumT b := by simp [sumT]
theorem mem_addD {out : List Txt} {s x : Txt} : x ∈ addD out s ↔ x ∈ out ∨ x = s := by
  unfold addD
  split
  · rename_i h
    exact ⟨.inl, fun h2 => h2.elim id fun e => e ▸ h⟩
  · simp
theorem nodup_addD {out : List Txt} {s : Txt} (h : out.Nodup) : (addD out s).Nodup := by
  unfold addD
  split
  · exact h
  · rename_i hs
    refine List.nodup_append.2 ⟨h, by simp, ?_⟩
    intro a ha b hb
    simp only [List.mem_singleton] at hb
    subst hb
    rintro rfl
    exact hs ha
theorem mem_foldD {x : Txt} : ∀ {l out : List Txt}, x ∈ l.foldl addD out ↔ x ∈ out ∨ x ∈ l
  | [], out => by simp
  | s :: l, out => by rw [List.foldl_cons, mem_foldD (l := l), mem_addD]; simp [or_assoc]
theorem nodup_foldD : ∀ {l out : List Txt}, out.Nodup → (l.foldl addD out).Nodup
  | [], _, h => h
  | s :: l, out, h => nodup_foldD (l := l) (out := addD out s) (nodup_addD h)
theorem mem_distT {x : Txt} {l : List Txt} : x ∈ distT l ↔ x ∈ l := by unfold distT; rw [mem_foldD]; simp
theorem nodup_distT (l : List Txt) : (distT l).Nodup := nodup_foldD (by simp)
theorem distT_snoc (l : List Txt) (s : Txt) : distT (l ++ [s]) = addD (distT l) s := by simp [distT]
theorem same_sets {a b : List Txt} (ha : a.Nodup) (hb : b.Nodup) (h : ∀ x, x ∈ a ↔ x ∈ b) : sumT a = sumT b ∧ a.length = b.length := by
  have hp := (List.perm_ext_iff_of_nodup ha hb).2 h
  exact ⟨(hp.map List.length).sum_nat, hp.length_eq⟩
theorem dist_len_le (l : List Txt) : (distT l).length ≤ l.length := by
  have : ∀ (l out : List Txt), (l.foldl addD out).length ≤ out.length + l.length := by
    intro l
    induction l with
    | nil => intro out; simp
    | cons s l ih =>
      intro out
      rw [List.foldl_cons]
      have h1 := ih (addD out s)
      have h2 : (addD out s).length ≤ out.length + 1 := by unfold addD; split <;> simp
      simp only [List.length_cons]
      omega
  have := this l []
  simp only [List.length_nil, Nat.zero_add] at this
  exact this
theorem dist_sum_le (l : List Txt) : sumT (distT l) ≤ sumT l := by
  have : ∀ (l out : List Txt), sumT (l.foldl addD out) ≤ sumT out + sumT l := by
    intro l
    induction l with
    | nil => intro out; simp [sumT]
    | cons s l ih =>
      intro out
      rw [List.foldl_cons]
      have h1 := ih (addD out s)
      have h2 : sumT (addD out s) ≤ sumT out + s.length := by
        unfold addD
        split
        · omega
        · rw [sumT_append]; simp [sumT]
      rw [sumT_cons]
      omega
  have := this l []
  have e : sumT ([] : List Txt) = 0 := rfl
  rw [e, Nat.zero_add] at this
  exact this
section
variable {nm : Txt → Txt}
/-- the new ones among these, or a name twice -/
def frGo (nm : Txt → Txt) (B : List Txt) : List Txt → List Txt → Option (List Txt)
  | F, [] => some F
  | F, t :: r => match (B ++ F).find? (fun u => nm u == nm t) with
    | some u => if u = t then frGo nm B F r else none
    | none => frGo nm B (F ++ [t]) r
theorem InjT.sub {a b : List Txt} (h : InjT nm b) (hs : ∀ x ∈ a, x ∈ b) : InjT nm a := fun s h1 t h2 e => h s (hs s h1) t (hs t h2) e
theorem frGo_spec {B : List Txt} : ∀ {cs F : List Txt}, (B ++ F).Nodup → InjT nm (B ++ F) →
    (frGo nm B F cs = none ∧ ¬ InjT nm (B ++ F ++ cs)) ∨ ∃ F', frGo nm B F cs = some F' ∧ (B ++ F').Nodup ∧ InjT nm (B ++ F') ∧ ∀ x, x ∈ B ++ F' ↔ x ∈ B ++ F ++ cs
  | [], F, hn, hi => .inr ⟨F, rfl, hn, hi, fun x => by simp⟩
  | t :: r, F, hn, hi => by
    cases hf : (B ++ F).find? (fun u => nm u == nm t) with
    | some u =>
      have hu := List.mem_of_find?_eq_some hf
      have hnu : nm u = nm t := by simpa using List.find?_some hf
      by_cases hut : u = t
      · subst hut
        have e : frGo nm B F (u :: r) = frGo nm B F r := by rw [frGo, hf]; simp
        rcases frGo_spec (cs := r) hn hi with ⟨h1, h2⟩ | ⟨F', h1, h2, h3, h4⟩
        · refine .inl ⟨e.trans h1, fun h => h2 (h.sub fun x hx => ?_)⟩
          simp only [List.mem_append, List.mem_cons] at hx ⊢
          rcases hx with hx | hx
          · exact .inl hx
          · exact .inr (.inr hx)
        · refine .inr ⟨F', e.trans h1, h2, h3, fun x => (h4 x).trans ?_⟩
          constructor
          · intro hx
            rcases List.mem_append.1 hx with hx | hx
            · exact List.mem_append_left _ hx
            · exact List.mem_append_right _ (List.mem_cons_of_mem _ hx)
          · intro hx
            rcases List.mem_append.1 hx with hx | hx
            · exact List.mem_append_left _ hx
            · rcases List.mem_cons.1 hx with rfl | hx
              · exact List.mem_append_left _ hu
              · exact List.mem_append_right _ hx
      · refine .inl ⟨by rw [frGo, hf]; simp [hut], fun h => hut ?_⟩
        exact h u (List.mem_append_left _ hu) t (List.mem_append_right _ (by simp)) hnu
    | none =>
      have hno := List.find?_eq_none.1 hf
      have hnt : t ∉ B ++ F := fun h => hno t h (by simp)
      have hn' : (B ++ (F ++ [t])).Nodup := by
        rw [← List.append_assoc]
        refine List.nodup_append.2 ⟨hn, by simp, ?_⟩
        intro a ha b hb
        simp only [List.mem_singleton] at hb
        subst hb
        rintro rfl
        exact hnt ha
      have hi' : InjT nm (B ++ (F ++ [t])) := by
        rw [← List.append_assoc]
        intro s h1 u h2 e
        rcases List.mem_append.1 h1 with k1 | k1 <;> rcases List.mem_append.1 h2 with k2 | k2
        · exact hi s k1 u k2 e
        · simp only [List.mem_singleton] at k2
          rw [k2] at e
          exact absurd (by simpa using e) (hno s k1)
        · simp only [List.mem_singleton] at k1
          rw [k1] at e
          exact absurd (by simpa using e.symm) (hno u k2)
        · simp only [List.mem_singleton] at k1 k2
          rw [k1, k2]
      have e : frGo nm B F (t :: r) = frGo nm B (F ++ [t]) r := by rw [frGo, hf]
      have em : B ++ (F ++ [t]) ++ r = B ++ F ++ (t :: r) := by simp
      rcases frGo_spec (cs := r) hn' hi' with ⟨h1, h2⟩ | ⟨F', h1, h2, h3, h4⟩
      · exact .inl ⟨e.trans h1, by rwa [em] at h2⟩
      · exact .inr ⟨F', e.trans h1, h2, h3, by rwa [em] at h4⟩
/-- what a pile's entries say of the texts -/
structure PR (nm : Txt → Txt) (all : List Txt) (E : List (Nat × Txt)) (cnt : Txt → Nat) : Prop where
  inj : InjT nm all
  mem : ∀ t, t ∈ E.map (·.2) ↔ t ∈ all
  nd : (E.map (·.2)).Nodup
  cnt : ∀ t ∈ all, cnt t = all.count t
theorem PR.used {all : List Txt} {E : List (Nat × Txt)} {cnt : Txt → Nat} (h : PR nm all E cnt) : sumT (E.map (·.2)) = usedT all ∧ E.length = manyT all := by
  have := same_sets h.nd (nodup_distT all) (fun x => (h.mem x).trans mem_distT.symm)
  refine ⟨this.1, ?_⟩
  have h2 := this.2
  rw [List.length_map] at h2
  exact h2
/-- what the list of the reference has lost -/
def dropGo (nm : Txt → Txt) (all : List Txt) : List Txt → List Txt → Option (List Txt)
  | rest, [] => some rest
  | rest, n :: r => match (distT all).find? (fun t => nm t == n) with
    | none => none
    | some t => if t ∈ rest then dropGo nm all (rest.erase t) r else none
def DropOk (nm : Txt → Txt) (all l : List Txt) : Prop := ∀ n ∈ l, ∃ t ∈ all, nm t = n ∧ l.count n ≤ all.count t
theorem find_named {all : List Txt} (hi : InjT nm all) {t : Txt} (ht : t ∈ all) : (distT all).find? (fun u => nm u == nm t) = some t := by
  cases hf : (distT all).find? (fun u => nm u == nm t) with
  | none => exact absurd (by simp) (List.find?_eq_none.1 hf t (mem_distT.2 ht))
  | some u =>
    have hu := mem_distT.1 (List.mem_of_find?_eq_some hf)
    have hn : nm u = nm t := by simpa using List.find?_some hf
    rw [hi u hu t ht hn]
theorem dropGo_spec {all : List Txt} (hi : InjT nm all) : ∀ {l rest : List Txt}, (∀ t ∈ rest, t ∈ all) →
    (dropGo nm all rest l = none ∧ ¬ ∀ n ∈ l, ∃ t ∈ all, nm t = n ∧ l.count n ≤ rest.count t) ∨
    ∃ r', dropGo nm all rest l = some r' ∧ (∀ n ∈ l, ∃ t ∈ all, nm t = n ∧ l.count n ≤ rest.count t) ∧ (∀ t ∈ r', t ∈ all) ∧ (∀ t ∈ all, r'.count t = rest.count t - l.count (nm t))
  | [], rest, hr => .inr ⟨rest, rfl, by simp, hr, fun t _ => by simp⟩
  | n :: l, rest, hr => by
    cases hf : (distT all).find? (fun t => nm t == n) with
    | none =>
      refine .inl ⟨by rw [dropGo, hf], fun h => ?_⟩
      obtain ⟨t, ht, hn, _⟩ := h n (by simp)
      exact List.find?_eq_none.1 hf t (mem_distT.2 ht) (by simp [hn])
    | some t =>
      have ht := mem_distT.1 (List.mem_of_find?_eq_some hf)
      have hn : nm t = n := by simpa using List.find?_some hf
      by_cases htr : t ∈ rest
      · have e : dropGo nm all rest (n :: l) = dropGo nm all (rest.erase t) l := by rw [dropGo, hf]; simp [htr]
        have hpos : 0 < rest.count t := List.count_pos_iff.2 htr
        have hcnt : ∀ u ∈ all, (rest.erase t).count u = rest.count u - (if u = t then 1 else 0) := fun u hu => by
          by_cases hut : u = t
          · subst hut; rw [List.count_erase_self, if_pos rfl]
          · rw [List.count_erase_of_ne hut, if_neg hut]; omega
        have hlc : ∀ u ∈ all, (n :: l).count (nm u) = l.count (nm u) + (if u = t then 1 else 0) := fun u hu => by
          by_cases hut : u = t
          · subst hut; rw [hn, List.count_cons_self, if_pos rfl]
          · rw [List.count_cons_of_ne (fun e => hut (hi u hu t ht (e.symm.trans hn.symm))), if_neg hut]; omega
        have hw : (∀ m ∈ n :: l, ∃ u ∈ all, nm u = m ∧ (n :: l).count m ≤ rest.count u) ↔ ∀ m ∈ l, ∃ u ∈ all, nm u = m ∧ l.count m ≤ (rest.erase t).count u := by
          constructor
          · intro h m hm
            obtain ⟨u, hu, h1, h2⟩ := h m (List.mem_cons_of_mem _ hm)
            refine ⟨u, hu, h1, ?_⟩
            subst h1
            rw [hlc u hu] at h2
            rw [hcnt u hu]
            omega
          · intro h m hm
            by_cases hml : m ∈ l
            · obtain ⟨u, hu, h1, h2⟩ := h m hml
              refine ⟨u, hu, h1, ?_⟩
              subst h1
              rw [hlc u hu]
              rw [hcnt u hu] at h2
              split at h2 <;> rename_i hx
              · subst hx; rw [if_pos rfl]; omega
              · rw [if_neg hx]; omega
            · rcases List.mem_cons.1 hm with rfl | hm
              · refine ⟨t, ht, hn, ?_⟩
                rw [List.count_cons_self, List.count_eq_zero.2 hml]
                omega
              · exact absurd hm hml
        rcases dropGo_spec hi (l := l) (rest := rest.erase t) (fun u hu => hr u (List.mem_of_mem_erase hu)) with ⟨h1, h2⟩ | ⟨r', h1, h2, h3, h4⟩
        · exact .inl ⟨e.trans h1, fun h => h2 (hw.1 h)⟩
        · refine .inr ⟨r', e.trans h1, hw.2 h2, h3, fun u hu => ?_⟩
          rw [h4 u hu, hcnt u hu, hlc u hu]
          omega
      · refine .inl ⟨by rw [dropGo, hf]; simp [htr], fun h => ?_⟩
        obtain ⟨u, hu, h1, h2⟩ := h n (by simp)
        have : u = t := hi u hu t ht (h1.trans hn.symm)
        subst this
        rw [List.count_cons_self, List.count_eq_zero.2 htr] at h2
        omega
/-- the texts of the names -/
def getT (look : Txt → Option Txt) : List Txt → Option (List Txt)
  | [] => some []
  | n :: r => match look n with
    | none => none
    | some t => (getT look r).map fun x => t :: x
theorem getT_snoc {look : Txt → Option Txt} {n : Txt} : ∀ {l : List Txt}, getT look (l ++ [n]) = (getT look l).bind fun ts => (look n).map fun t => ts ++ [t]
  | [] => by
    simp only [List.nil_append, getT]
    cases look n <;> rfl
  | m :: l => by
    simp only [List.cons_append, getT]
    cases look m with
    | none => rfl
    | some t =>
      simp only [getT_snoc (l := l)]
      cases getT look l with
      | none => rfl
      | some ts => cases look n <;> rfl
theorem getT_none {look : Txt → Option Txt} {n : Txt} : ∀ {l : List Txt}, n ∈ l → look n = none → getT look l = none
  | m :: l, h, h2 => by
    rcases List.mem_cons.1 h with rfl | h
    · simp only [getT, h2]
    · simp only [getT]
      cases look m with
      | none => rfl
      | some t => simp only [getT_none h h2]; rfl
def lookT (nm : Txt → Txt) (l : List Txt) (n : Txt) : Option Txt := l.find? fun t => nm t == n
theorem lookT_some {l : List Txt} {n t : Txt} (h : lookT nm l n = some t) : t ∈ l ∧ nm t = n := ⟨List.mem_of_find?_eq_some h, by simpa using List.find?_some h⟩
theorem lookT_none {l : List Txt} {n : Txt} (h : lookT nm l n = none) : ∀ t ∈ l, nm t ≠ n := fun t ht e => List.find?_eq_none.1 h t ht (by simp [e])
theorem lookT_of {l : List Txt} (hi : InjT nm l) {n t : Txt} (ht : t ∈ l) (hn : nm t = n) : lookT nm l n = some t := by
  cases h : lookT nm l n with
  | none => exact absurd hn (lookT_none h t ht)
  | some u =>
    obtain ⟨h1, h2⟩ := lookT_some h
    rw [hi u h1 t ht (h2.trans hn.symm)]
theorem lookT_not {l : List Txt} {n : Txt} (h : ∀ t ∈ l, nm t ≠ n) : lookT nm l n = none := by
  cases h2 : lookT nm l n with
  | none => rfl
  | some u =>
    obtain ⟨h1, h3⟩ := lookT_some h2
    exact absurd h3 (h u h1)
theorem lookT_same {a b : List Txt} (hi : InjT nm a) (h : ∀ t, t ∈ b ↔ t ∈ a) : lookT nm b = lookT nm a := by
  funext n
  cases h2 : lookT nm a n with
  | none => exact lookT_not fun t ht => lookT_none h2 t ((h t).1 ht)
  | some u =>
    obtain ⟨h1, h3⟩ := lookT_some h2
    exact lookT_of (hi.sub fun x hx => (h x).1 hx) ((h u).2 h1) h3
/-- what get answers -/
def getE (look : Txt → Option Txt) (l : List Txt) : Txt × Int := match getT look l with
  | none => ([], 4)
  | some ts => if 5000 < sumT ts then ([], 2) else (ts.flatten, 0)
end
end Go.Larder

/- A map whose keys are texts, known whole and in its order: made, read, written, counted. No program in sight. -/
namespace Go.Larder
open Go.RowKit
set_option linter.unusedVariables false
set_option linter.unusedSimpArgs false
section plain
variable {β : Type}
/-- the place and the value of a key -/
def idxM : List (List UInt8 × β) → List UInt8 → Option (Nat × β)
  | [], _ => none
  | (a, v) :: r, k => if k = a then some (0, v) else (idxM r k).map fun p => (p.1 + 1, p.2)
def getM : List (List UInt8 × β) → List UInt8 → Option β
  | [], _ => none
  | (a, v) :: r, k => if k = a then some v else getM r k
def putM : List (List UInt8 × β) → List UInt8 → β → List (List UInt8 × β)
  | [], k, v => [(k, v)]
  | (a, u) :: r, k, v => if k = a then (a, v) :: r else (a, u) :: putM r k v
def delM : List (List UInt8 × β) → List UInt8 → List (List UInt8 × β)
  | [], _ => []
  | (a, u) :: r, k => if k = a then r else (a, u) :: delM r k
def keysM (m : List (List UInt8 × β)) : List (List UInt8) := m.map Prod.fst
theorem getM_idx : ∀ (m : List (List UInt8 × β)) (k : List UInt8), getM m k = (idxM m k).map Prod.snd
  | [], _ => rfl
  | (a, v) :: r, k => by
    by_cases h : k = a
    · simp [getM, idxM, h]
    · simp only [getM, idxM, if_neg h]; rw [getM_idx r k]; cases idxM r k <;> rfl
theorem getM_none : ∀ {m : List (List UInt8 × β)} {k : List UInt8}, getM m k = none ↔ k ∉ keysM m
  | [], k => by simp [getM, keysM]
  | (a, v) :: r, k => by
    have ih := getM_none (m := r) (k := k)
    unfold keysM at ih ⊢
    by_cases h : k = a
    · simp [getM, h]
    · simp [getM, h, ih]
theorem getM_some_mem {m : List (List UInt8 × β)} {k : List UInt8} {v : β} (h : getM m k = some v) : (k, v) ∈ m := by
  induction m with
  | nil => simp [getM] at h
  | cons p r ih =>
    obtain ⟨a, u⟩ := p
    by_cases hk : k = a
    · subst hk; simp [getM] at h; simp [h]
    · simp only [getM, if_neg hk] at h; exact List.mem_cons_of_mem _ (ih h)
theorem getM_of_mem {m : List (List UInt8 × β)} (hn : (keysM m).Nodup) {k : List UInt8} {v : β} (h : (k, v) ∈ m) : getM m k = some v := by
  induction m with
  | nil => cases h
  | cons p r ih =>
    obtain ⟨a, u⟩ := p
    unfold keysM at hn
    rw [List.map_cons, List.nodup_cons] at hn
    rcases List.mem_cons.1 h with h' | h'
    · injection h' with h1 h2; subst h1 h2; exact if_pos rfl
    · have : k ≠ a := by
        rintro rfl
        exact hn.1 (List.mem_map.2 ⟨(k, v), h', rfl⟩)
      simp only [getM, if_neg this]
      exact ih hn.2 h'
theorem getM_put (m : List (List UInt8 × β)) (k k' : List UInt8) (v : β) : getM (putM m k v) k' = if k' = k then some v else getM m k' := by
  induction m with
  | nil => simp [putM, getM]
  | cons p r ih =>
    obtain ⟨a, u⟩ := p
    by_cases h : k = a
    · subst h
      by_cases h2 : k' = k <;> simp [putM, getM, h2]
    · by_cases h2 : k' = a
      · subst h2
        have : ¬ k' = k := fun h3 => h h3.symm
        simp [putM, getM, h, this]
      · simp [putM, getM, h, h2, ih]
theorem keysM_put (m : List (List UInt8 × β)) (k : List UInt8) (v : β) : keysM (putM m k v) = if k ∈ keysM m then keysM m else keysM m ++ [k] := by
  induction m with
  | nil => simp [putM, keysM]
  | cons p r ih =>
    obtain ⟨a, u⟩ := p
    unfold keysM at ih ⊢
    by_cases h : k = a
    · subst h; simp [putM]
    · rw [putM, if_neg h, List.map_cons, List.map_cons, ih]
      simp only [List.mem_cons, h, false_or]
      by_cases h2 : k ∈ List.map Prod.fst r
      · rw [if_pos h2, if_pos h2]
      · rw [if_neg h2, if_neg h2]; rfl
theorem nodup_put {m : List (List UInt8 × β)} (hn : (keysM m).Nodup) (k : List UInt8) (v : β) : (keysM (putM m k v)).Nodup := by
  rw [keysM_put]
  split
  · exact hn
  · rename_i h
    refine List.nodup_append.2 ⟨hn, by simp, ?_⟩
    intro a ha b hb
    simp only [List.mem_singleton] at hb
    subst hb
    rintro rfl
    exact h ha
theorem len_put (m : List (List UInt8 × β)) (k : List UInt8) (v : β) : (putM m k v).length = if (getM m k).isSome then m.length else m.length + 1 := by
  have h1 : (putM m k v).length = (keysM (putM m k v)).length := by simp [keysM]
  have h2 := getM_none (m := m) (k := k)
  rw [h1, keysM_put]
  cases hg : getM m k with
  | none => rw [if_neg (h2.1 hg)]; simp [keysM]
  | some x =>
    have : k ∈ keysM m := by
      apply Classical.byContradiction
      intro hc
      rw [h2.2 hc] at hg
      cases hg
    rw [if_pos this]; simp [keysM]
theorem keysM_del (m : List (List UInt8 × β)) (k : List UInt8) : keysM (delM m k) = (keysM m).erase k := by
  induction m with
  | nil => rfl
  | cons p r ih =>
    obtain ⟨a, u⟩ := p
    unfold keysM at ih ⊢
    by_cases h : k = a
    · subst h; simp [delM]
    · have h' : ¬ (a == k) = true := by simpa using fun e => h e.symm
      simp only [delM, if_neg h, List.map_cons, ih]
      rw [List.erase_cons_tail h']
theorem nodup_del {m : List (List UInt8 × β)} (hn : (keysM m).Nodup) (k : List UInt8) : (keysM (delM m k)).Nodup := by
  rw [keysM_del]; exact hn.erase k
theorem getM_del {m : List (List UInt8 × β)} (hn : (keysM m).Nodup) (k k' : List UInt8) : getM (delM m k) k' = if k' = k then none else getM m k' := by
  induction m with
  | nil => simp [delM, getM]
  | cons p r ih =>
    obtain ⟨a, u⟩ := p
    unfold keysM at hn
    rw [List.map_cons, List.nodup_cons] at hn
    by_cases h : k = a
    · subst h
      by_cases h2 : k' = k
      · subst h2
        simp only [delM, if_true]
        exact getM_none.2 hn.1
      · simp [delM, getM, h2]
    · by_cases h2 : k' = a
      · subst h2
        have : ¬ k' = k := fun h3 => h h3.symm
        simp [delM, getM, h, this]
      · simp only [delM, if_neg h, getM, if_neg h2]; exact ih hn.2
theorem len_del (m : List (List UInt8 × β)) (k : List UInt8) : (delM m k).length = if (getM m k).isSome then m.length - 1 else m.length := by
  induction m with
  | nil => rfl
  | cons p r ih =>
    obtain ⟨a, u⟩ := p
    by_cases h : k = a
    · subst h; simp [delM, getM]
    · simp only [delM, if_neg h, getM, List.length_cons, ih]
      split
      · rename_i h2
        have : 0 < r.length := by
          cases r with
          | nil => simp [getM] at h2
          | cons x r => simp
        omega
      · rfl
end plain
def entV (p : List UInt8 × Value) : Value × Value := (S p.1, p.2)
/-- Block g is a map with these entries, in this order. -/
def MapAt (w : World) (g : Nat) (m : List (List UInt8 × Value)) : Prop :=
  ∃ es clock, w.heap[g]? = some (.map es clock) ∧ MapKept.Stamped es clock ∧ es.toList.map (fun e => (e.key, e.val)) = m.map entV
theorem S_inj {a b : List UInt8} (h : S a = S b) : a = b := by
  injection h with h
  have := congrArg (fun x : ByteArray => x.data.toList) h
  simpa using this
theorem S_beq (a b : List UInt8) : ((⟨a.toArray⟩ : ByteArray) == (⟨b.toArray⟩ : ByteArray)) = decide (a = b) := by
  rw [Bool.eq_iff_iff, MapKept.bytes_beq, decide_eq_true_eq]
  constructor
  · intro h; exact S_inj (by rw [S, S, h])
  · rintro rfl; rfl
theorem findNow_S (k : List UInt8) : ∀ (es : List MapEntry) (m : List (List UInt8 × Value)) (i : Nat), es.map (fun e => (e.key, e.val)) = m.map entV → Instr.findNow .string (S k) es i = some ((idxM m k).map fun p => (i + p.1, p.2))
  | [], [], i, _ => rfl
  | [], _ :: _, _, h => by simp at h
  | _ :: _, [], _, h => by simp at h
  | e :: es, (a, v) :: m, i, h => by
    simp only [List.map_cons, List.cons.injEq, entV, Prod.mk.injEq] at h
    obtain ⟨⟨hk, hv⟩, h⟩ := h
    have ih := findNow_S k es m (i + 1) (by simpa [entV] using h)
    unfold Instr.findNow
    rw [hk]
    simp only [Instr.sameNow, S_beq]
    by_cases hka : k = a
    · subst hka
      simp [idxM, hv]
    · simp only [hka, decide_false, ih, idxM, if_false]
      cases idxM m k with
      | none => rfl
      | some p => simp; omega
section
variable {P : Program} {w w' : World} {g : Nat} {m : List (List UInt8 × Value)} {t kt et : TypeId}
theorem MapAt.made (w : World) : MapAt (w.alloc (.map #[] 0)) w.heap.size [] := ⟨#[], 0, heap_alloc_new w _, MapKept.stamped_empty 0, rfl⟩
theorem MapAt.lt (h : MapAt w g m) : g < w.heap.size := by
  obtain ⟨es, c, h, _⟩ := h
  exact (Array.getElem?_eq_some_iff.1 h).1
theorem MapAt.same (h : MapAt w g m) (hk : w'.heap[g]? = w.heap[g]?) : MapAt w' g m := by
  obtain ⟨es, c, h1, h2⟩ := h
  exact ⟨es, c, hk.trans h1, h2⟩
theorem MapAt.keep (h : MapAt w g m) (hb : Below w.heap.size w w') : MapAt w' g m := h.same (hb.block g h.lt)
theorem MapAt.but {B : Nat → Prop} (h : MapAt w g m) (hb : SameBut B w w') (hg : ¬ B g) : MapAt w' g m := h.same (hb.block g h.lt hg)
theorem MapAt.alloc (h : MapAt w g m) (o : Obj) : MapAt (w.alloc o) g m := h.keep ((Below.refl _ _).alloc (Nat.le_refl _) o)
theorem MapAt.drew (h : MapAt w g m) : MapAt w.drew g m := h
theorem MapAt.setCell (h : MapAt w g m) (a : Addr) (ha : g ≠ a.block) (v : Value) : MapAt (w.setCell a v) g m := h.same (heap_setCell_other _ _ _ _ ha)
theorem MapAt.nodup (h : MapAt w g m) : (keysM m).Nodup := by
  obtain ⟨es, c, _, hs, he⟩ := h
  have h1 : es.toList.map (·.key) = (keysM m).map S := by
    have := congrArg (List.map Prod.fst) he
    simpa [entV, keysM, Function.comp_def] using this
  have h2 := hs.2.2
  rw [h1] at h2
  exact (List.pairwise_map.1 h2).imp fun {a b} hab he => hab (by rw [he])
theorem MapAt.box_ne {T : TypeId} {b : Nat} {cs : List Value} (h : MapAt w g m) (hb : BoxAt w b T cs) : g ≠ b := by
  rintro rfl
  obtain ⟨es, c, h1, _⟩ := h
  unfold BoxAt at hb
  rw [h1] at hb
  injection hb with hb
  cases hb
theorem run_lookup_S (ht : P.underlying t = some (.map kt et)) (hk : P.underlying kt = some .string) (h : MapAt w g m) (k : List UInt8) (ok : Bool) {i : Nat} {v : Value} (hv : getM m k = some v) :
    (Instr.lookup t (.map (some g)) (S k) ok).run P w = .ok (if ok then .tuple #[v, .bool true] else v) w := by
  obtain ⟨es, c, hb, _, he⟩ := h
  have hf := MapKept.run_findKey (w := w) hk (findNow_S k es.toList m 0 he)
  rw [getM_idx] at hv
  cases hi : idxM m k with
  | none => rw [hi] at hv; cases hv
  | some p =>
    rw [hi] at hv hf
    simp only [Option.map_some, Option.some.injEq] at hv hf
    subst hv
    simp [Instr.lookup, run_underlying ht, MapKept.run_getObj_map hb, MapKept.run_checkKey (w := w) hk (k := S k) trivial, hf, Result.andThen]
theorem run_lookup_none (ht : P.underlying t = some (.map kt et)) (hk : P.underlying kt = some .string) (h : MapAt w g m) (k : List UInt8) (ok : Bool) {z : Value} (hz : (zeroValue et).run P w = .ok z w) (hv : getM m k = none) :
    (Instr.lookup t (.map (some g)) (S k) ok).run P w = .ok (if ok then .tuple #[z, .bool false] else z) w := by
  obtain ⟨es, c, hb, _, he⟩ := h
  have hf := MapKept.run_findKey (w := w) hk (findNow_S k es.toList m 0 he)
  rw [getM_idx] at hv
  cases hi : idxM m k with
  | some p => rw [hi] at hv; cases hv
  | none =>
    rw [hi] at hf
    simp only [Option.map_none] at hf
    simp [Instr.lookup, run_underlying ht, MapKept.run_getObj_map hb, MapKept.run_checkKey (w := w) hk (k := S k) trivial, hf, hz, Result.andThen]
theorem run_len_map (ht : P.underlying t = some (.map kt et)) (h : MapAt w g m) (ty : TypeId) : (Builtin.len_ #[t] ty #[.map (some g)]).run P w = .ok (.int .i64 (m.length : Int)) w := by
  obtain ⟨es, c, hb, _, he⟩ := h
  have := congrArg List.length he
  simp only [List.length_map, Array.length_toList] at this
  simp [Builtin.len_, run_underlying ht, MapKept.run_getObj_map hb, goInt, Result.andThen, this]
theorem sameBut_put {es es' : Array MapEntry} {c c' : Nat} (hb : w.heap[g]? = some (.map es c)) : SameBut (fun j => j = g) w { w with heap := w.heap.setIfInBounds g (.map es' c') } :=
  ⟨rfl, rfl, rfl, by simp, fun j _ hj => (MapKept.heap_set hb).2 j hj⟩
theorem idxM_at : ∀ {m : List (List UInt8 × Value)} {k : List UInt8} {i : Nat} {v : Value}, idxM m k = some (i, v) → m[i]? = some (k, v)
  | [], _, _, _, h => by simp [idxM] at h
  | (a, u) :: m, k, i, v, h => by
    by_cases hk : k = a
    · subst hk
      simp only [idxM, if_true, Option.some.injEq, Prod.mk.injEq] at h
      obtain ⟨rfl, rfl⟩ := h
      rfl
    · simp only [idxM, if_neg hk, Option.map_eq_some_iff] at h
      obtain ⟨p, hp, h⟩ := h
      injection h with h1 h2
      subst h1 h2
      simp only [List.getElem?_cons_succ]
      exact idxM_at hp
theorem putM_mod : ∀ {m : List (List UInt8 × Value)} {k : List UInt8} {i : Nat} {u v : Value}, idxM m k = some (i, u) → putM m k v = m.modify i (fun p => (p.1, v))
  | [], _, _, _, _, h => by simp [idxM] at h
  | (a, x) :: m, k, i, u, v, h => by
    by_cases hk : k = a
    · subst hk
      simp only [idxM, if_true, Option.some.injEq, Prod.mk.injEq] at h
      obtain ⟨rfl, rfl⟩ := h
      simp [putM]
    · simp only [idxM, if_neg hk, Option.map_eq_some_iff] at h
      obtain ⟨p, hp, h⟩ := h
      injection h with h1 h2
      subst h1 h2
      simp only [putM, if_neg hk, List.modify_succ_cons]
      rw [putM_mod (v := v) hp]
theorem putM_new : ∀ {m : List (List UInt8 × Value)} {k : List UInt8} {v : Value}, idxM m k = none → putM m k v = m ++ [(k, v)]
  | [], _, _, _ => rfl
  | (a, x) :: m, k, v, h => by
    by_cases hk : k = a
    · simp [idxM, hk] at h
    · simp only [idxM, if_neg hk, Option.map_eq_none_iff] at h
      simp only [putM, if_neg hk, putM_new h, List.cons_append]
theorem delM_idx : ∀ {m : List (List UInt8 × Value)} {k : List UInt8} {i : Nat} {u : Value}, idxM m k = some (i, u) → delM m k = m.eraseIdx i
  | [], _, _, _, h => by simp [idxM] at h
  | (a, x) :: m, k, i, u, h => by
    by_cases hk : k = a
    · subst hk
      simp only [idxM, if_true, Option.some.injEq, Prod.mk.injEq] at h
      obtain ⟨rfl, rfl⟩ := h
      simp [delM]
    · simp only [idxM, if_neg hk, Option.map_eq_some_iff] at h
      obtain ⟨p, hp, h⟩ := h
      injection h with h1 h2
      subst h1 h2
      simp only [delM, if_neg hk, List.eraseIdx_cons_succ]
      rw [delM_idx hp]
theorem delM_none : ∀ {m : List (List UInt8 × Value)} {k : List UInt8}, idxM m k = none → delM m k = m
  | [], _, _ => rfl
  | (a, x) :: m, k, h => by
    by_cases hk : k = a
    · simp [idxM, hk] at h
    · simp only [idxM, if_neg hk, Option.map_eq_none_iff] at h
      simp only [delM, if_neg hk, delM_none h]
theorem MapAt.put (ht : P.underlying t = some (.map kt et)) (hk : P.underlying kt = some .string) (h : MapAt w g m) (k : List UInt8) (v : Value) :
    ∃ w', (Instr.mapUpdate t (.map (some g)) (S k) v).run P w = .ok () w' ∧ MapAt w' g (putM m k v) ∧ SameBut (fun j => j = g) w w' := by
  have hnd := h.nodup
  obtain ⟨es, c, hb, hs, he⟩ := h
  have hf := MapKept.run_findKey (w := w) hk (findNow_S k es.toList m 0 he)
  cases hi : idxM m k with
  | none =>
    rw [hi] at hf
    simp only [Option.map_none] at hf
    refine ⟨_, ?_, ⟨es.push { key := S k, val := v, born := c }, c + 1, (MapKept.heap_set hb).1, MapKept.stamped_push hs ?_, ?_⟩, sameBut_put hb⟩
    · simp [Instr.mapUpdate, run_underlying ht, MapKept.run_getObj_map hb, MapKept.run_checkKey (w := w) hk (k := S k) trivial, hf, Result.andThen, MapKept.run_setObj_map _ hb]
    · intro x hx hxk
      have h1 : (x.key, x.val) ∈ m.map entV := by rw [← he]; exact List.mem_map.2 ⟨x, hx, rfl⟩
      obtain ⟨p, hp, h2⟩ := List.mem_map.1 h1
      simp only [entV, Prod.mk.injEq] at h2
      rw [hxk] at h2
      have h3 := S_inj h2.1
      have h4 : getM m k = none := by rw [getM_idx, hi]; rfl
      exact getM_none.1 h4 (List.mem_map.2 ⟨p, hp, h3⟩)
    · rw [putM_new hi]
      simp [he, entV]
  | some p =>
    obtain ⟨i, u⟩ := p
    rw [hi] at hf
    simp only [Option.map_some, Nat.zero_add] at hf
    have hat := idxM_at hi
    have hmi : (es.toList.map (fun e => (e.key, e.val)))[i]? = some (S k, u) := by rw [he, List.getElem?_map, hat]; rfl
    rw [List.getElem?_map, Option.map_eq_some_iff] at hmi
    obtain ⟨e0, he0, he1⟩ := hmi
    simp only [Prod.mk.injEq] at he1
    rw [Array.getElem?_toList] at he0
    refine ⟨_, ?_, ⟨es.modify i fun e => { e with key := S k, val := v }, c, (MapKept.heap_set hb).1, MapKept.stamped_modify hs i _ (fun _ _ => rfl) ?_, ?_⟩, sameBut_put hb⟩
    · have hst := MapKept.run_keyThatStays (P := P) (w := w) (d := .string) (k := S k) trivial
      have hgd : ((es[i]?).map (·.key)).getD (S k) = S k := by rw [he0, Option.map_some, Option.getD_some]; exact he1.1
      simp [Instr.mapUpdate, run_underlying ht, MapKept.run_getObj_map hb, MapKept.run_checkKey (w := w) hk (k := S k) trivial, hf, Result.andThen, MapKept.run_setObj_map _ hb, hgd, hst]
    · intro e _ h1
      rw [he0] at h1
      injection h1 with h1
      rw [← h1]
      exact he1.1.symm
    · rw [putM_mod hi]
      apply List.ext_getElem?
      intro j
      have hj := congrArg (fun l => l[j]?) he
      simp only [List.getElem?_map] at hj
      simp only [List.getElem?_map, Array.getElem?_toList, Array.getElem?_modify, List.getElem?_modify]
      rw [Array.getElem?_toList] at hj
      by_cases hij : i = j
      · subst hij
        rw [he0, hat]
        simp [entV]
      · simp only [if_neg hij]
        simpa using hj
theorem MapAt.del (ht : P.underlying t = some (.map kt et)) (hk : P.underlying kt = some .string) (h : MapAt w g m) (k : List UInt8) (ty : TypeId) :
    ∃ w', (Builtin.delete_ #[t, kt] ty #[.map (some g), S k]).run P w = .ok (.tuple #[]) w' ∧ MapAt w' g (delM m k) ∧ SameBut (fun j => j = g) w w' := by
  obtain ⟨es, c, hb, hs, he⟩ := h
  have hf := MapKept.run_findKey (w := w) hk (findNow_S k es.toList m 0 he)
  cases hi : idxM m k with
  | none =>
    rw [hi] at hf
    simp only [Option.map_none] at hf
    refine ⟨_, ?_, ⟨es, c, (MapKept.heap_set hb).1, hs, by rw [delM_none hi]; exact he⟩, sameBut_put hb⟩
    simp [Builtin.delete_, run_underlying ht, MapKept.run_getObj_map hb, MapKept.run_checkKey (w := w) hk (k := S k) trivial, hf, Result.andThen, MapKept.run_setObj_map _ hb]
  | some p =>
    obtain ⟨i, u⟩ := p
    rw [hi] at hf
    simp only [Option.map_some, Nat.zero_add] at hf
    refine ⟨_, ?_, ⟨es.eraseIdxIfInBounds i, c, (MapKept.heap_set hb).1, MapKept.stamped_erase hs i, ?_⟩, sameBut_put hb⟩
    · simp [Builtin.delete_, run_underlying ht, MapKept.run_getObj_map hb, MapKept.run_checkKey (w := w) hk (k := S k) trivial, hf, Result.andThen, MapKept.run_setObj_map _ hb]
    · rw [delM_idx hi]
      have h1 : (es.eraseIdxIfInBounds i).toList = es.toList.eraseIdx i := by
        unfold Array.eraseIdxIfInBounds
        split
        · simp only [Array.toList_eraseIdx]
        · rw [List.eraseIdx_of_length_le]; simpa using (by omega : es.size ≤ i)
      rw [h1]
      apply List.ext_getElem?
      intro j
      have hj : ∀ j : Nat, (es.toList.map fun e => (e.key, e.val))[j]? = (m.map entV)[j]? := fun j => by rw [he]
      simp only [List.getElem?_map] at hj
      simp only [List.getElem?_map, List.getElem?_eraseIdx]
      split
      · exact hj j
      · exact hj (j + 1)
/-- .. at the operation -/
theorem wpList_mapPut {ops : Array Oper} {rest : List Oper} {o : Oper} {a : Act} {Q : Exit → Act → World → Prop}
    (hg : o.guard = none) (x k v : Operand) (hop : o.op = Op.mapUpdate t x k v) (ht : P.underlying t = some (.map kt et)) (hk : P.underlying kt = some .string)
    (hx : a.eval x = .map (some g)) (h : MapAt w g m) (key : List UInt8) (hkey : a.eval k = S key) (val : Value) (hv : a.eval v = val)
    (K : ∀ w', MapAt w' g (putM m key val) → SameBut (fun j => j = g) w w' → wpList P ops Q rest (a.put o.dst undef) w') : wpList P ops Q (o :: rest) a w := by
  refine wpList_plain hg fun K' hK' => ?_
  obtain ⟨w', hrun, r1, r2⟩ := h.put ht hk key val
  unfold Oper.wp
  simp only [execOp, hop, hx, hkey, hv, Sem.run_bind, Sem.run_pure, hrun, Result.andThen_ok]
  exact hK' _ _ (K w' r1 r2)
theorem wpList_mapDel {ops : Array Oper} {rest : List Oper} {o : Oper} {a : Act} {Q : Exit → Act → World → Prop}
    (hg : o.guard = none) (x k : Operand) (hop : o.op = .call { callee := .builtin .delete, args := #[x, k], argTypes := #[t, kt] }) (ht : P.underlying t = some (.map kt et)) (hk : P.underlying kt = some .string)
    (hx : a.eval x = .map (some g)) (h : MapAt w g m) (key : List UInt8) (hkey : a.eval k = S key)
    (K : ∀ w', MapAt w' g (delM m key) → SameBut (fun j => j = g) w w' → wpList P ops Q rest (a.put o.dst (.tuple #[])) w') : wpList P ops Q (o :: rest) a w := by
  refine wpList_plain hg fun K' hK' => ?_
  obtain ⟨w', hrun, r1, r2⟩ := h.del ht hk key o.type
  unfold Oper.wp
  simp only [execOp, hop, resolve, invoke, builtin, Sem.run_bind, Sem.run_pure, Result.andThen_ok, List.map_toArray, List.map_cons, List.map_nil, hx, hkey, hrun]
  exact hK' _ _ (K w' r1 r2)
end
end Go.Larder

/- A map whose keys are texts, ranged over: what is still to come, as a list. No program in sight. -/
namespace Go.Larder
open Go.RowKit
open Go.ChangeMaps (setBlock)
set_option linter.unusedVariables false
set_option linter.unusedSimpArgs false
/-- Block r ranges over the map g that holds m; todo is still to come. -/
def RngM (w : World) (g r : Nat) (m todo : List (List UInt8 × Value)) : Prop :=
  ∃ es clock since seen c0, w.heap[g]? = some (.map es clock) ∧ MapKept.Stamped es clock ∧ es.toList.map (fun e => (e.key, e.val)) = m.map entV ∧ w.heap[r]? = some (.mapIter (some g) since seen c0) ∧
    (∀ x ∈ es.toList, x.born < since) ∧ since ≤ c0 ∧ since ≤ clock ∧ (es.toList.filter fun x => !seen.contains x.born).map (fun e => (e.key, e.val)) = todo.map entV
section
variable {P : Program} {w w' : World} {g r : Nat} {m todo : List (List UInt8 × Value)} {t kt et : TypeId}
theorem RngM.map (h : RngM w g r m todo) : MapAt w g m := by
  obtain ⟨es, clock, since, seen, c0, h1, h2, h3, _⟩ := h
  exact ⟨es, clock, h1, h2, h3⟩
theorem RngM.ne (h : RngM w g r m todo) : g ≠ r := by
  obtain ⟨es, clock, since, seen, c0, h1, h2, h3, h4, _⟩ := h
  rintro rfl
  rw [h1] at h4
  cases h4
theorem RngM.lt (h : RngM w g r m todo) : r < w.heap.size := by
  obtain ⟨es, clock, since, seen, c0, h1, h2, h3, h4, _⟩ := h
  exact (Array.getElem?_eq_some_iff.1 h4).1
theorem RngM.same (h : RngM w g r m todo) (h1 : w'.heap[g]? = w.heap[g]?) (h2 : w'.heap[r]? = w.heap[r]?) : RngM w' g r m todo := by
  obtain ⟨es, clock, since, seen, c0, k1, k2, k3, k4, k5⟩ := h
  exact ⟨es, clock, since, seen, c0, h1.trans k1, k2, k3, h2.trans k4, k5⟩
theorem RngM.but {B : Nat → Prop} (h : RngM w g r m todo) (hs : SameBut B w w') (h1 : ¬ B g) (h2 : ¬ B r) : RngM w' g r m todo :=
  h.same (hs.block g h.map.lt h1) (hs.block r h.lt h2)
theorem RngM.keep (h : RngM w g r m todo) (hb : Below w.heap.size w w') : RngM w' g r m todo :=
  h.same (hb.block g h.map.lt) (hb.block r h.lt)
theorem RngM.left (h : RngM w g r m todo) : w.rangeLeft g r = todo.length := by
  obtain ⟨es, clock, since, seen, c0, h1, h2, h3, h4, h5, h6, h7, h8⟩ := h
  have := congrArg List.length h8
  simp only [List.length_map] at this
  unfold World.rangeLeft
  rw [h1, h4]
  simp only [leftOf]
  rw [← this, ← Array.length_toList, Array.toList_filter]
/-- the loop begins -/
theorem MapAt.range (ht : P.underlying t = some (.map kt et)) (h : MapAt w g m) :
    ∃ w', (Instr.range t (.map (some g))).run P w = .ok (.pointer (some ⟨w.heap.size, 0, none⟩)) w' ∧ RngM w' g w.heap.size m m ∧ Below w.heap.size w w' ∧ w'.heap.size = w.heap.size + 1 := by
  have hlt := h.lt
  obtain ⟨es, clock, hb, hs, he⟩ := h
  refine ⟨_, run_range_map w t kt et g es clock ht hb, ⟨es, clock, clock, #[], clock, (heap_alloc_old w _ hlt).trans hb, hs, he, Go.heap_alloc_new w _, hs.1, Nat.le_refl _, Nat.le_refl _, ?_⟩, (Below.refl _ _).alloc (Nat.le_refl _) _, by simp⟩
  rw [List.filter_eq_self.2 (fun x _ => by simp)]
  exact he
theorem filter_one_less {seen : Array Nat} {e : MapEntry} : ∀ {l : List MapEntry}, (l.map (·.born)).Nodup → e ∈ l → seen.contains e.born = false →
    ∃ a b, l.filter (fun x => !seen.contains x.born) = a ++ e :: b ∧ l.filter (fun x => !(seen.push e.born).contains x.born) = a ++ b
  | x :: l, hn, he, hs => by
    have hn' : x.born ∉ l.map (·.born) ∧ (l.map (·.born)).Nodup := List.nodup_cons.1 hn
    rcases List.mem_cons.1 he with rfl | he
    · refine ⟨[], l.filter fun x => !seen.contains x.born, ?_, ?_⟩
      · rw [List.filter_cons_of_pos (by rw [hs]; rfl)]; rfl
      · have h1 : (!(seen.push e.born).contains e.born) = false := by rw [contains_push]; simp
        rw [List.filter_cons_of_neg (by rw [h1]; simp), List.nil_append]
        refine List.filter_congr fun y hy => ?_
        have hne : (y.born == e.born) = false := by
          simp only [beq_eq_false_iff_ne, ne_eq]
          intro e1
          exact hn'.1 (e1 ▸ List.mem_map.2 ⟨y, hy, rfl⟩)
        rw [contains_push, hne, Bool.or_false]
    · obtain ⟨a, b, h1, h2⟩ := filter_one_less hn'.2 he hs
      have hne : (x.born == e.born) = false := by
        simp only [beq_eq_false_iff_ne, ne_eq]
        intro e1
        exact hn'.1 (e1.symm ▸ List.mem_map.2 ⟨e, he, rfl⟩)
      have hc : (seen.push e.born).contains x.born = seen.contains x.born := by rw [contains_push, hne, Bool.or_false]
      cases hx : seen.contains x.born
      · refine ⟨x :: a, b, ?_, ?_⟩
        · rw [List.filter_cons_of_pos (by rw [hx]; rfl), h1]; rfl
        · rw [List.filter_cons_of_pos (by rw [hc, hx]; rfl), h2]; rfl
      · refine ⟨a, b, ?_, ?_⟩
        · rw [List.filter_cons_of_neg (by rw [hx]; simp), h1]
        · rw [List.filter_cons_of_neg (by rw [hc, hx]; simp), h2]
/-- the step -/
theorem RngM.next (h : RngM w g r m todo) (ty : TypeId) :
    (todo = [] ∧ (Instr.next (.pointer (some ⟨r, 0, none⟩)) false ty).run P w = .ok (.tuple #[.bool false]) w) ∨
    ∃ a k v b w', todo = a ++ (k, v) :: b ∧ (Instr.next (.pointer (some ⟨r, 0, none⟩)) false ty).run P w = .ok (.tuple #[.bool true, S k, v]) w' ∧ RngM w' g r m (a ++ b) ∧ SameBut (fun j => j = r) w w' ∧ w'.heap.size = w.heap.size ∧
      (Instr.entry (.pointer (some ⟨r, 0, none⟩))).run P w' = .ok (.tuple #[S k, v]) w' := by
  have hne := h.ne
  obtain ⟨es, clock, since, seen, c0, hb, hst, hes, hr, hold, hsc, hsk, htd⟩ := h
  rcases run_next_at (P := P) w ty r g since c0 seen es clock hr hb hold hsc with ⟨h0, hrun⟩ | ⟨e, he, w1, hal, hrun⟩
  · refine .inl ⟨?_, hrun⟩
    have h1 : (es.toList.filter fun x => !seen.contains x.born) = [] := List.filter_eq_nil_iff.2 fun x hx => by rw [all_seen es seen h0 x hx]; simp
    rw [h1] at htd
    simpa using htd.symm
  · obtain ⟨hem, hsn⟩ := mem_left he
    obtain ⟨a, b, h1, h2⟩ := filter_one_less hst.2.1 hem hsn
    rw [h1, List.map_append, List.map_cons] at htd
    obtain ⟨ta, tb, rfl, hta, htb⟩ := List.map_eq_append_iff.1 htd.symm
    obtain ⟨p, tb', rfl, hp, htb'⟩ := List.map_eq_cons_iff.1 htb
    obtain ⟨k, v⟩ := p
    simp only [entV, Prod.mk.injEq] at hp
    have hr1 : w1.heap[r]? = some (.mapIter (some g) since seen c0) := by rcases hal with rfl | rfl <;> exact hr
    have hb1 : w1.heap[g]? = some (.map es clock) := by rcases hal with rfl | rfl <;> exact hb
    have hset := MapKept.heap_set (o' := .mapIter (some g) since (seen.push e.born) clock) hr1
    have hb' : (setBlock w1 r (.mapIter (some g) since (seen.push e.born) clock)).heap[g]? = some (.map es clock) := (hset.2 g hne).trans hb1
    rw [← hp.1, ← hp.2] at hrun
    refine .inr ⟨ta, k, v, tb', _, rfl, hrun, ⟨es, clock, since, seen.push e.born, clock, hb', hst, hes, hset.1, hold, hsk, hsk, ?_⟩, ?_, ?_, ?_⟩
    · rw [h2, List.map_append, List.map_append, hta, htb']
    · rcases hal with rfl | rfl <;> exact ⟨rfl, rfl, rfl, by simp [setBlock], fun j _ hj => hset.2 j hj⟩
    · rcases hal with rfl | rfl <;> simp [setBlock]
    · have := run_entry_at (P := P) _ r g since seen es clock e hset.1 hb' hem hst.2.1
      rw [← hp.1, ← hp.2] at this
      exact this
variable {ops : Array Oper} {rest : List Oper} {o : Oper} {a : Act} {Q : Exit → Act → World → Prop}
/-- .. at the operation -/
theorem wpList_rangeM (hg : o.guard = none) (x : Operand) (hop : o.op = Op.range t x) (ht : P.underlying t = some (.map kt et)) (hx : a.eval x = .map (some g)) (h : MapAt w g m)
    (K : ∀ w', RngM w' g w.heap.size m m → Below w.heap.size w w' → w'.heap.size = w.heap.size + 1 → wpList P ops Q rest (a.put o.dst (.pointer (some ⟨w.heap.size, 0, none⟩))) w') : wpList P ops Q (o :: rest) a w := by
  refine wpList_plain hg fun K' hK' => ?_
  obtain ⟨w', hrun, r1, r2, r3⟩ := h.range ht
  unfold Oper.wp
  simp [execOp, hop, hx, hrun, Result.andThen]
  exact hK' _ _ (K w' r1 r2 r3)
theorem wpList_nextM (hg : o.guard = none) (it : Operand) (hop : o.op = Op.next it false) (hit : a.eval it = .pointer (some ⟨r, 0, none⟩)) (h : RngM w g r m todo)
    (hDone : todo = [] → wpList P ops Q rest (a.put o.dst (.tuple #[.bool false])) w)
    (hMore : ∀ ta k v tb w', todo = ta ++ (k, v) :: tb → RngM w' g r m (ta ++ tb) → SameBut (fun j => j = r) w w' → w'.heap.size = w.heap.size → (Instr.entry (.pointer (some ⟨r, 0, none⟩))).run P w' = .ok (.tuple #[S k, v]) w' →
      wpList P ops Q rest (a.put o.dst (.tuple #[.bool true, S k, v])) w') : wpList P ops Q (o :: rest) a w := by
  refine wpList_plain hg fun K' hK' => ?_
  unfold Oper.wp
  rcases h.next (P := P) o.type with ⟨h0, hrun⟩ | ⟨ta, k, v, tb, w', h0, hrun, hrg, hsb, hsz, hen⟩
  · simp [execOp, hop, hit, hrun, Result.andThen]
    exact hK' _ _ (hDone h0)
  · simp [execOp, hop, hit, hrun, Result.andThen]
    exact hK' _ _ (hMore ta k v tb w' h0 hrg hsb hsz hen)
end
end Go.Larder

/- Copies into a block known whole. No program in sight. -/
namespace Go.Larder
open Go.RowKit
set_option linter.unusedVariables false
set_option linter.unusedSimpArgs false
theorem setRow_same (w : World) (g : Nat) (cs : Array Value) : SameBut (fun j => j = g) w (w.setRow g cs) := ⟨rfl, rfl, rfl, by simp, fun k _ hn => setRow_other w g k cs hn⟩
theorem wpList_copy_box {P : Program} {w : World} {ops : Array Oper} {rest : List Oper} {o : Oper} {a : Act} {Q : Exit → Act → World → Prop} (hgd : o.guard = none) (d s : Operand) (dT sT : TypeId)
    (ho : o.op = .call { callee := .builtin .copy, args := #[d, s], argTypes := #[dT, sT] }) (elem : TypeId) (hu : P.underlying dT = some (.slice elem)) (hsz : (P.info? elem).map (·.size) = some 1)
    {g off dLen dCap m sCap : Nat} {t : TypeId} {ad : Addr} {cs : List Value} (cs2 : List Value) (hd : a.eval d = .slice (some ⟨g, off, none⟩) dLen dCap) (hs : a.eval s = .slice (some ad) m sCap) (hb : BoxAt w g t cs)
    (hm : cs2.length = m) (hle : m ≤ dLen) (hsrc : ∀ j v, cs2[j]? = some v → w.cell? (ad.add j) = some v) (hfit : off + m ≤ cs.length) (h1 : ∀ v ∈ cs2, v.oneCell' = true) (N : Int) (hN : (m : Int) = N)
    (h : ∀ w', BoxAt w' g t (cs.take off ++ (cs2 ++ cs.drop (off + m))) → SameBut (fun j => j = g) w w' → wpList P ops Q rest (a.put o.dst (.int .i64 N)) w') : wpList P ops Q (o :: rest) a w := by
  subst hm hN
  refine wpList_copy_own hgd d s dT sT ho elem hu hsz g off dLen dCap ad cs2.length sCap hd hs cs.toArray t hb cs2 (Nat.min_eq_left hle).symm hsrc (by simpa using hfit) h1 ?_
  refine h _ ?_ (setRow_same w g _)
  have := setRow_heap w g _ (cs.toArray.toList.take off ++ (cs2 ++ cs.toArray.toList.drop (off + cs2.length))).toArray t _ hb
  exact this
theorem BoxAt.srcs {w : World} {g : Nat} {t : TypeId} {cs : List Value} (h : BoxAt w g t cs) : ∀ j v, cs[j]? = some v → w.cell? ((⟨g, 0, none⟩ : Addr).add j) = some v := fun j v hv => by
  have hadd : (⟨g, 0, none⟩ : Addr).add j = ⟨g, j, none⟩ := by unfold Addr.add; split <;> simp_all
  rw [hadd]
  exact h.cell hv
end Go.Larder

/- A text appended to bytes, at a step of a region that draws. -/
namespace Go.Larder
open Go.RowKit
set_option linter.unusedVariables false
set_option linter.unusedSimpArgs false
theorem run_app_str {P : Program} {w : World} {t tS ty e : TypeId} {base c : Nat} {A : Option Addr} {l : List UInt8}
    (ht : P.underlying t = some (.slice e)) (hS : P.underlying tS = some .string) (hinfo : (P.info? e).map (fun i => (i.zero, i.size, i.bytes)) = some (some (.int .u8 0), 1, 1))
    (hown : OwnL encB w base e A c l) (m : List UInt8) (hb : l.length + m.length ≤ 140737488355328) (hbase : base ≤ w.heap.size) :
    ∃ A' c' w', (Builtin.append_ #[t, tS] ty #[.slice A l.length c, S m]).run P w = .ok (.slice A' (l.length + m.length) c') w' ∧ OwnL encB w' base e A' c' (l ++ m) ∧ Below base w w' := by
  obtain ⟨i, hi, hz, hz1, hz2⟩ := info_parts hinfo
  have e1 : (⟨m.toArray⟩ : ByteArray).size = m.length := ba_size m
  obtain ⟨v', w', hrun, h1, h2, _⟩ := Lib.run_append_own_string (P := P) w base t tS ty e i ht hS hi hz hz1 hz2 _ l.length _ hown ⟨m.toArray⟩ (by rw [e1]; simp only [maxLen]; omega) (by rw [e1]; exact hb) hbase
  rw [e1] at h1
  obtain ⟨A', cap, rfl⟩ : ∃ A' cap, v' = .slice A' (l.length + m.length) cap := by
    rcases h1.2 with ⟨h, h0⟩ | ⟨g, cap, _, rfl, _⟩
    · exact ⟨none, 0, by rw [h, h0]⟩
    · exact ⟨_, cap, rfl⟩
  have hl : (l ++ m).length = l.length + m.length := by simp
  exact ⟨A', cap, w', hrun, (by
    unfold OwnL
    rw [hl, flat_B, List.map_append, ← flat_B]
    exact h1), ⟨h2.os, h2.tape, h2.output, h2.size, fun j hj => h2.block j (by omega) (by
      intro hne
      cases A with
      | none => simp [Value.ownBlock] at hne
      | some g' =>
        have := (OwnL.lt hown g' rfl).1
        simp [Value.ownBlock] at hne
        omega)⟩⟩
/-- .. at a step of a region that draws. -/
theorem step_app_str {P : Program} {w : World} {ops : Array Oper} {o : Oper} {a : Act} {K : Act → World → Prop} {Q : Exit → Act → World → Prop} {Z : Prop} {t tS e : TypeId} {base c : Nat} {A : Option Addr} {l : List UInt8}
    (ht : P.underlying t = some (.slice e)) (hS : P.underlying tS = some .string) (hinfo : (P.info? e).map (fun i => (i.zero, i.size, i.bytes)) = some (some (.int .u8 0), 1, 1)) (hgd : o.guard = none) (s x : Operand)
    (ho : o.op = .call { callee := .builtin .append, args := #[s, x], argTypes := #[t, tS] })
    (hs : a.eval s = .slice A l.length c) (hown : OwnL encB w base e A c l) (m : List UInt8) (hx : a.eval x = S m) (hb : l.length + m.length ≤ 140737488355328) (hbase : base ≤ w.heap.size)
    (k : ∀ A' c' w', OwnL encB w' base e A' c' (l ++ m) → Below base w w' → K (a.put o.dst (.slice A' (l.length + m.length) c')) w') :
    if Region.wanted o (yielded ops a.tmps) = true then Oper.wp P o a w K Q else Z := by
  have hw : Region.wanted o (yielded ops a.tmps) = true := by simp [Region.wanted, hgd]
  rw [if_pos hw]
  obtain ⟨A', cap, w', hrun, h1, h2⟩ := run_app_str (ty := o.type) ht hS hinfo hown m hb hbase
  have hk := k A' cap w' h1 h2
  unfold Oper.wp execOp
  simp only [ho, resolve, invoke, builtin, Sem.run_bind, Sem.run_pure, Result.andThen_ok, List.map_toArray, List.map_cons, List.map_nil, hs, hx, hrun]
  exact hk
end Go.Larder

/- A row of bytes seen from a place on (a window that a slice has moved along), and a text appended to it. No program in sight. -/
namespace Go.Larder
open Go.RowKit
set_option linter.unusedVariables false
set_option linter.unusedSimpArgs false
structure OwnW (w : World) (base : Nat) (e : TypeId) (A : Option Addr) (c : Nat) (l : List UInt8) : Prop where
  le : l.length ≤ c
  body : (A = none ∧ c = 0) ∨ ∃ g off cur, A = some ⟨g, off, none⟩ ∧ base ≤ g ∧ w.heap[g]? = some (.cells cur e (0, 0)) ∧ off + c ≤ cur.size ∧ (cur.toList.drop off).take l.length = Lib.byteCells l
variable {w w' : World} {base c : Nat} {e : TypeId} {A : Option Addr} {l : List UInt8}
theorem OwnW.nil (w : World) (base : Nat) (e : TypeId) : OwnW w base e none 0 [] := ⟨Nat.le_refl _, .inl ⟨rfl, rfl⟩⟩
theorem OwnW.lt (h : OwnW w base e A c l) {a : Addr} (ha : A = some a) : base ≤ a.block ∧ a.block < w.heap.size := by
  subst ha
  rcases h.body with ⟨h0, _⟩ | ⟨g, off, cur, h1, h2, h3, _⟩
  · cases h0
  · injection h1 with h1
    subst h1
    exact ⟨h2, (Array.getElem?_eq_some_iff.1 h3).1⟩
theorem OwnW.keep (h : OwnW w base e A c l) (hk : ∀ a, A = some a → w'.heap[a.block]? = w.heap[a.block]?) : OwnW w' base e A c l := by
  refine ⟨h.le, ?_⟩
  rcases h.body with h0 | ⟨g, off, cur, h1, h2, h3, h4⟩
  · exact .inl h0
  · exact .inr ⟨g, off, cur, h1, h2, (hk _ h1).trans h3, h4⟩
theorem OwnW.below (h : OwnW w base e A c l) (hb : Below w.heap.size w w') : OwnW w' base e A c l := h.keep fun a ha => hb.block _ (h.lt ha).2
theorem OwnW.cells (h : OwnW w base e A c l) : ∀ g off, A = some ⟨g, off, none⟩ → ∀ j v, (Lib.byteCells l)[j]? = some v → w.cell? ((⟨g, off, none⟩ : Addr).add j) = some v := by
  intro g off hA j v hv
  rcases h.body with ⟨h0, _⟩ | ⟨g', off', cur, h1, h2, h3, h4, h5⟩
  · rw [h0] at hA; cases hA
  · rw [hA] at h1
    injection h1 with h1
    injection h1 with h1 h1'
    subst h1 h1'
    have hadd : (⟨g, off, none⟩ : Addr).add j = ⟨g, off + j, none⟩ := by unfold Addr.add; split <;> simp_all
    rw [hadd, cell_of_row _ _ _ _ _ _ h3]
    have hj : j < l.length := by
      have := (List.getElem?_eq_some_iff.1 hv).1
      rwa [Lib.byteCells_length] at this
    rw [← h5, List.getElem?_take, if_pos hj, List.getElem?_drop] at hv
    rw [← Array.getElem?_toList]
    exact hv
theorem OwnW.read (h : OwnW w base e A c l) : ReadL encB w w.heap.size A l := by
  intro hn
  rcases h.body with ⟨h0, h0'⟩ | ⟨g, off, cur, h1, h2, h3, h4, h5⟩
  · have := h.le
    omega
  · refine ⟨g, off, h1, (Array.getElem?_eq_some_iff.1 h3).1, fun k y hy r u hu => ?_⟩
    have hr : r = 0 := by
      have := (List.getElem?_eq_some_iff.1 hu).1
      simp [encB] at this; exact this
    subst hr
    have hu' : Value.int .u8 (y.toNat : Int) = u := by simpa [encB] using hu
    have := h.cells g off h1 k u (by unfold Lib.byteCells; rw [List.getElem?_map, hy, ← hu']; rfl)
    have hadd : (⟨g, off, none⟩ : Addr).add k = ⟨g, off + k, none⟩ := by unfold Addr.add; split <;> simp_all
    rw [hadd] at this
    rw [show off + k * encB.size + 0 = off + k from by show off + k * 1 + 0 = _; omega]
    exact this
theorem OwnW.drop (h : OwnW w base e A c l) {k : Nat} (hk : k ≤ l.length) : OwnW w base e (A.map fun a => a.add k) (c - k) (l.drop k) := by
  have hle := h.le
  refine ⟨by rw [List.length_drop]; omega, ?_⟩
  rcases h.body with ⟨h0, h0'⟩ | ⟨g, off, cur, h1, h2, h3, h4, h5⟩
  · exact .inl ⟨by rw [h0]; rfl, by omega⟩
  · have hadd : (⟨g, off, none⟩ : Addr).add k = ⟨g, off + k, none⟩ := by unfold Addr.add; split <;> simp_all
    refine .inr ⟨g, off + k, cur, by rw [h1, Option.map_some, hadd], h2, h3, by omega, ?_⟩
    have := congrArg (List.drop k) h5
    rw [List.drop_take, List.drop_drop] at this
    rw [List.length_drop, this]
    unfold Lib.byteCells
    rw [List.map_drop]
theorem run_append_room_str {P : Program} {w : World} (t u ty e : TypeId) (i : TypeInfo) (ht : P.underlying t = some (.slice e)) (hu : P.underlying u = some .string) (hi : P.info? e = some i) (hs1 : i.size = 1)
    (g off sLen sCap : Nat) (cur : Array Value) (hg : w.heap[g]? = some (.cells cur e (0, 0))) (s : ByteArray)
    (hroom : sLen + s.size ≤ sCap) (hfit : off + sLen + s.size ≤ cur.size) :
    (Builtin.append_ #[t, u] ty #[.slice (some ⟨g, off, none⟩) sLen sCap, .string s]).run P w =
      .ok (.slice (some ⟨g, off, none⟩) (sLen + s.size) sCap) (w.setRow g (cur.toList.take (off + sLen) ++ Lib.strCells s ++ cur.toList.drop (off + sLen + s.size)).toArray) := by
  have hf := Lib.run_firstCells_string (P := P) w 1 s
  have hst := run_storeCells_at P g (off + sLen) e (Lib.strCells s) 0 cur w hg (by simpa [Lib.strCells_length] using hfit) (Lib.strCells_oneCell s)
  simp only [Nat.add_zero, Lib.strCells_length] at hst
  have hadd : (⟨g, off, none⟩ : Addr).add sLen = ⟨g, off + sLen, none⟩ := by unfold Addr.add; split <;> simp_all
  simp [Builtin.append_, run_underlying ht, run_underlying hu, sizeOf, typeInfo, hi, hs1, Builtin.lenOf, hroom, hf, hadd, hst]
theorem strCells_S (m : List UInt8) : Lib.strCells ⟨m.toArray⟩ = Lib.byteCells m := by simp [Lib.strCells, Lib.byteCells]
theorem byteCells_app (a b : List UInt8) : Lib.byteCells (a ++ b) = Lib.byteCells a ++ Lib.byteCells b := by simp [Lib.byteCells]
theorem own_new {w : World} {g base cap : Nat} {e : TypeId} {l : List UInt8} {rest : List Value} {cur : Array Value} (hh : w.heap[g]? = some (.cells cur e (0, 0))) (hc : cur.toList = Lib.byteCells l ++ rest) (hs : cap ≤ cur.size) (hl : l.length ≤ cap) (hb : base ≤ g) : OwnW w base e (some ⟨g, 0, none⟩) cap l :=
  ⟨hl, .inr ⟨g, 0, cur, rfl, hb, hh, by omega, by rw [List.drop_zero, hc, ← Lib.byteCells_length l, List.take_left]⟩⟩
theorem OwnW.app {P : Program} {w : World} {t tS ty e : TypeId} {base c : Nat} {A : Option Addr} {l : List UInt8}
    (ht : P.underlying t = some (.slice e)) (hS : P.underlying tS = some .string) (hinfo : (P.info? e).map (fun i => (i.zero, i.size, i.bytes)) = some (some (.int .u8 0), 1, 1))
    (h : OwnW w base e A c l) (m : List UInt8) (hb : l.length + m.length ≤ 140737488355328) (hbase : base ≤ w.heap.size) :
    ∃ A' c' w', (Builtin.append_ #[t, tS] ty #[.slice A l.length c, S m]).run P w = .ok (.slice A' (l.length + m.length) c') w' ∧ OwnW w' base e A' c' (l ++ m) ∧ w.grownBy w' (blkOf A) := by
  obtain ⟨i, hi, hz, hz1, hz2⟩ := info_parts hinfo
  have e1 : (⟨m.toArray⟩ : ByteArray).size = m.length := ba_size m
  have hzc : (Value.int IntKind.u8 0).cells.size = 1 := rfl
  have hle := h.le
  rcases h.body with ⟨rfl, rfl⟩ | ⟨g, off, cur, rfl, hbg, hg, hcs, htk⟩
  · obtain rfl : l = [] := List.eq_nil_of_length_eq_zero (by omega)
    by_cases hm : m.length = 0
    · obtain rfl : m = [] := List.eq_nil_of_length_eq_zero hm
      refine ⟨none, 0, w, ?_, OwnW.nil _ _ _, rfl, rfl, rfl, Nat.le_refl _, fun _ _ _ => rfl⟩
      have hf := Lib.run_firstCells_string (P := P) w 1 ByteArray.empty
      have h0 : ByteArray.empty.size = 0 := rfl
      rw [h0] at hf
      show (Builtin.append_ #[t, tS] ty #[.slice none 0 0, .string ByteArray.empty]).run P w = _
      simp [Builtin.append_, run_underlying ht, run_underlying hS, sizeOf, typeInfo, hi, hz1, Builtin.lenOf, hf]
    · have hr := run_append_nil_string (P := P) (w := w) t tS ty e i (.int .u8 0) ht hS hi hz ⟨m.toArray⟩ (by omega) (by omega) (by rw [hz2]; omega)
      rw [e1] at hr
      have hg2 : w.grownBy (w.drew.alloc (.cells ((⟨m.toArray⟩ : ByteArray).data.map (fun b => Value.int .u8 b.toNat) ++ Builtin.zeroCells (Value.int .u8 0).cells (grownCap w m.length 0 e - m.length)) e)) (blkOf none) := ⟨rfl, rfl, rfl, by simp, fun k hk _ => Below.heap_alloc w.drew _ k hk⟩
      refine ⟨some ⟨w.heap.size, 0, none⟩, grownCap w m.length 0 e, _, ?_, ?_, hg2⟩
      · rw [List.length_nil, Nat.zero_add]
        exact hr
      have hge := grownCap_ge w m.length 0 e
      refine own_new (rest := (Builtin.zeroCells (Value.int .u8 0).cells (grownCap w m.length 0 e - m.length)).toList) (heap_alloc_new w.drew _) ?_ ?_ ?_ hbase
      · simp [Lib.byteCells]
      · simp only [Array.size_append, Array.size_map, size_zeroCells, hzc]
        have : m.toArray.size = m.length := by simp
        omega
      · simpa using hge
  · by_cases hroom : l.length + m.length ≤ c
    · have hr := run_append_room_str (P := P) (w := w) t tS ty e i ht hS hi hz1 g off l.length c cur hg ⟨m.toArray⟩ (by omega) (by omega)
      rw [e1, strCells_S] at hr
      refine ⟨_, _, _, hr, ⟨by simp; omega, .inr ⟨g, off, _, rfl, hbg, setRow_heap w g cur _ e _ hg, ?_, ?_⟩⟩, rfl, rfl, rfl, by simp, fun k hk hne => setRow_other _ _ _ _ fun hkg => hne (by simp [blkOf, hkg])⟩
      · simp [Lib.byteCells_length]
        omega
      · have hl0 : (cur.toList.take (off + l.length)).length = off + l.length := by rw [List.length_take]; simp; omega
        show List.take (l ++ m).length (List.drop off (cur.toList.take (off + l.length) ++ Lib.byteCells m ++ cur.toList.drop (off + l.length + m.length))) = _
        rw [List.append_assoc, List.drop_append_of_le_length (by omega), List.drop_take, Nat.add_sub_cancel_left, htk, byteCells_app, ← List.append_assoc, List.length_append, ← Lib.byteCells_length l, ← Lib.byteCells_length m, ← List.length_append, List.take_left]
    · have hr := Lib.run_append_grow_string (P := P) (w := w) t tS ty e i (.int .u8 0) ht hS hi hz ⟨g, off, none⟩ l.length c (Lib.byteCells l) (by rw [Lib.byteCells_length, hz1, Nat.mul_one]) (h.cells g off rfl) ⟨m.toArray⟩ (by omega) (by omega) (by rw [e1]; exact growslice_fits (by omega) (by rw [hz2]; omega))
      rw [e1, strCells_S] at hr
      have hge := grownCap_ge w (l.length + m.length) c e
      refine ⟨_, _, _, hr, ?_, rfl, rfl, rfl, by simp, fun k hk _ => Below.heap_alloc w.drew _ k hk⟩
      refine own_new (rest := (Builtin.zeroCells (Value.int .u8 0).cells (grownCap w (l.length + m.length) c e - (l.length + m.length))).toList) (heap_alloc_new w.drew _) ?_ ?_ ?_ hbase
      · simp [byteCells_app, List.append_assoc]
      · simp only [Array.size_append, List.size_toArray, size_zeroCells, hzc, Lib.byteCells_length]
        omega
      · rw [List.length_append]; exact hge
end Go.Larder
namespace Go.Larder
open Go.RowKit
/-- .. as an operation of a walk. -/
theorem wpList_appW {P : Program} {w : World} {ops : Array Oper} {rest : List Oper} {o : Oper} {a : Act} {Q : Exit → Act → World → Prop} {t tS e : TypeId} {base c n : Nat} {A : Option Addr} {l : List UInt8}
    (ht : P.underlying t = some (.slice e)) (hS : P.underlying tS = some .string) (hinfo : (P.info? e).map (fun i => (i.zero, i.size, i.bytes)) = some (some (.int .u8 0), 1, 1)) (hgd : o.guard = none) (s x : Operand)
    (ho : o.op = .call { callee := .builtin .append, args := #[s, x], argTypes := #[t, tS] })
    (hs : a.eval s = .slice A n c) (h : OwnW w base e A c l) (hn : l.length = n) (m : List UInt8) (hx : a.eval x = S m) (hb : l.length + m.length ≤ 140737488355328) (hbase : base ≤ w.heap.size)
    (k : ∀ A' c' w', OwnW w' base e A' c' (l ++ m) → w.grownBy w' (blkOf A) → wpList P ops Q rest (a.put o.dst (.slice A' (n + m.length) c')) w') : wpList P ops Q (o :: rest) a w := by
  subst hn
  refine wpList_plain hgd fun K hK => ?_
  obtain ⟨A', cap, w', hrun, h1, h2⟩ := OwnW.app (ty := o.type) ht hS hinfo h m hb hbase
  have hk := hK _ _ (k A' cap w' h1 h2)
  unfold Oper.wp execOp
  simp only [ho, resolve, invoke, builtin, Sem.run_bind, Sem.run_pure, Result.andThen_ok, List.map_toArray, List.map_cons, List.map_nil, hs, hx, hrun]
  exact hk
end Go.Larder

/- Where a text is cut. No program in sight. -/
namespace Go.Larder
open Go.RowKit
set_option linter.unusedVariables false
set_option linter.unusedSimpArgs false
def gear (c : UInt8) : Nat := (((c.toNat + 1) * 2654435761 % 4294967296 ^^^ (c.toNat + 1) * 2654435761 % 4294967296 / 32768) * 2246822519 % 4294967296) ^^^ (((c.toNat + 1) * 2654435761 % 4294967296 ^^^ (c.toNat + 1) * 2654435761 % 4294967296 / 32768) * 2246822519 % 4294967296) / 8192
theorem gear_lt (c : UInt8) : gear c < 4294967296 := by
  unfold gear
  have h1 : ((((c.toNat + 1) * 2654435761 % 4294967296 ^^^ (c.toNat + 1) * 2654435761 % 4294967296 / 32768) * 2246822519 % 4294967296)) < 2 ^ 32 := Nat.mod_lt _ (by omega)
  generalize ((((c.toNat + 1) * 2654435761 % 4294967296 ^^^ (c.toNat + 1) * 2654435761 % 4294967296 / 32768) * 2246822519 % 4294967296)) = y at *
  have h2 : y / 8192 < 2 ^ 32 := by omega
  have := Nat.xor_lt_two_pow h1 h2
  omega
def gearN (n : Nat) : Nat := (((n + 1) * 2654435761 % 4294967296 ^^^ (n + 1) * 2654435761 % 4294967296 / 32768) * 2246822519 % 4294967296) ^^^ (((n + 1) * 2654435761 % 4294967296 ^^^ (n + 1) * 2654435761 % 4294967296 / 32768) * 2246822519 % 4294967296) / 8192
theorem gear_walk1 : ∀ n : Fin 256, bits BinOp.xor IntKind.u32 (bits BinOp.xor IntKind.u32 (((n.val : Int) + 1) % 4294967296 * 2654435761 % 4294967296) (((n.val : Int) + 1) % 4294967296 * 2654435761 % 4294967296 / 32768) * 2246822519 % 4294967296) (bits BinOp.xor IntKind.u32 (((n.val : Int) + 1) % 4294967296 * 2654435761 % 4294967296) (((n.val : Int) + 1) % 4294967296 * 2654435761 % 4294967296 / 32768) * 2246822519 % 4294967296 / 8192) = (gearN n.val : Nat) := by decide +kernel
def gearR (n : Int) : Int := bits BinOp.xor IntKind.u32 ((IntKind.u64.wrap (IntKind.u64.wrap (bits BinOp.xor IntKind.u32 ((IntKind.u64.wrap (IntKind.u64.wrap (IntKind.u64.wrap n + 1) * 2654435761)).tmod 4294967296 % 4294967296) ((IntKind.u64.wrap (IntKind.u64.wrap (IntKind.u64.wrap n + 1) * 2654435761)).tmod 4294967296 % 4294967296 / 32768)) * 2246822519)).tmod 4294967296 % 4294967296) ((IntKind.u64.wrap (IntKind.u64.wrap (bits BinOp.xor IntKind.u32 ((IntKind.u64.wrap (IntKind.u64.wrap (IntKind.u64.wrap n + 1) * 2654435761)).tmod 4294967296 % 4294967296) ((IntKind.u64.wrap (IntKind.u64.wrap (IntKind.u64.wrap n + 1) * 2654435761)).tmod 4294967296 % 4294967296 / 32768)) * 2246822519)).tmod 4294967296 % 4294967296 / 8192)
theorem gear_walk2 : ∀ n : Fin 256, gearR (n.val : Int) = (gearN n.val : Nat) := by decide +kernel
theorem gear1 (c : UInt8) : bits BinOp.xor IntKind.u32 (bits BinOp.xor IntKind.u32 (((c.toNat : Int) + 1) % 4294967296 * 2654435761 % 4294967296) (((c.toNat : Int) + 1) % 4294967296 * 2654435761 % 4294967296 / 32768) * 2246822519 % 4294967296) (bits BinOp.xor IntKind.u32 (((c.toNat : Int) + 1) % 4294967296 * 2654435761 % 4294967296) (((c.toNat : Int) + 1) % 4294967296 * 2654435761 % 4294967296 / 32768) * 2246822519 % 4294967296 / 8192) = (gear c : Nat) := gear_walk1 ⟨c.toNat, c.toNat_lt⟩
theorem gear2 (c : UInt8) : gearR c.toNat = (gear c : Nat) := gear_walk2 ⟨c.toNat, c.toNat_lt⟩
def sumF (s : Nat) (b : UInt8) : Nat := (2 * s + gear b) % 4294967296
def sumC (s : Nat) (l : List UInt8) : Nat := l.foldl sumF s
theorem sumC_cons (s : Nat) (b : UInt8) (l : List UInt8) : sumC s (b :: l) = sumC (sumF s b) l := rfl
theorem sumC_one (s : Nat) (b : UInt8) : sumC s [b] = sumF s b := by rw [sumC_cons]; unfold sumC; rw [List.foldl_nil]
theorem sumC_app (s : Nat) (l m : List UInt8) : sumC s (l ++ m) = sumC (sumC s l) m := by unfold sumC; rw [List.foldl_append]
theorem sumF_lt (s : Nat) (b : UInt8) : sumF s b < 4294967296 := Nat.mod_lt _ (by omega)
theorem sumC_lt {s : Nat} (hs : s < 4294967296) (l : List UInt8) : sumC s l < 4294967296 := by
  induction l generalizing s with
  | nil => exact hs
  | cons b l ih => rw [sumC_cons]; exact ih (sumF_lt _ _)
theorem sumC_shift (l : List UInt8) : ∀ s t : Nat, s < 4294967296 → t < 4294967296 → (s * 2 ^ l.length) % 4294967296 = (t * 2 ^ l.length) % 4294967296 → sumC s l = sumC t l := by
  induction l with
  | nil => intro s t hs ht h; simp at h; rw [Nat.mod_eq_of_lt hs, Nat.mod_eq_of_lt ht] at h; simpa [sumC] using h
  | cons b l ih =>
    intro s t hs ht h
    rw [sumC_cons, sumC_cons]
    refine ih _ _ (sumF_lt _ _) (sumF_lt _ _) ?_
    rw [List.length_cons] at h
    unfold sumF
    have e : ∀ x : Nat, (2 * x + gear b) % 4294967296 * 2 ^ l.length % 4294967296 = (x * 2 ^ (l.length + 1) % 4294967296 + gear b * 2 ^ l.length) % 4294967296 := by
      intro x
      rw [Nat.mod_mul_mod, Nat.add_mul, Nat.pow_succ, Nat.mod_add_mod, Nat.mul_comm 2 x, Nat.mul_assoc, Nat.mul_comm 2]
    rw [e, e, h]
/-- the last 32 bytes alone count -/
theorem sumC_last {l m : List UInt8} (hm : 32 ≤ m.length) : sumC 0 (l ++ m) = sumC 0 m := by
  rw [sumC_app]
  refine sumC_shift m _ _ (sumC_lt (by omega) l) (by omega) ?_
  obtain ⟨d, hd⟩ : ∃ d, m.length = 32 + d := ⟨m.length - 32, by omega⟩
  rw [hd, Nat.pow_add, show (2 : Nat) ^ 32 = 4294967296 from rfl, ← Nat.mul_assoc, Nat.mul_right_comm, Nat.mul_mod_left]
  simp
def isCut (n sum : Nat) : Bool := decide (16 ≤ n) && (decide (sum < 134217728) || n == 128)
/-- the sum, the pieces, what is left -/
abbrev CkS := Nat × List (List UInt8) × List UInt8
def ckStep (st : CkS) (b : UInt8) : CkS :=
  if isCut (st.2.2.length + 1) (sumF st.1 b) = true then (sumF st.1 b, st.2.1 ++ [st.2.2 ++ [b]], []) else (sumF st.1 b, st.2.1, st.2.2 ++ [b])
def ckAll (st : CkS) (l : List UInt8) : CkS := l.foldl ckStep st
def ck (l : List UInt8) : CkS := ckAll (0, [], []) l
theorem ck_yes {st : CkS} {b : UInt8} (h : isCut (st.2.2.length + 1) (sumF st.1 b) = true) : ckStep st b = (sumF st.1 b, st.2.1 ++ [st.2.2 ++ [b]], []) := by unfold ckStep; rw [if_pos h]
theorem ck_no {st : CkS} {b : UInt8} (h : isCut (st.2.2.length + 1) (sumF st.1 b) = false) : ckStep st b = (sumF st.1 b, st.2.1, st.2.2 ++ [b]) := by unfold ckStep; rw [if_neg (by rw [h]; simp)]
theorem ck_sum (st : CkS) (l : List UInt8) : (ckAll st l).1 = sumC st.1 l := by
  induction l generalizing st with
  | nil => rfl
  | cons b l ih =>
    change (ckAll (ckStep st b) l).1 = _
    rw [ih, sumC_cons]
    congr 1
    unfold ckStep
    split <;> rfl
theorem ck_app (st : CkS) (l m : List UInt8) : ckAll st (l ++ m) = ckAll (ckAll st l) m := by unfold ckAll; rw [List.foldl_append]
theorem ck_snoc (st : CkS) (l : List UInt8) (b : UInt8) : ckAll st (l ++ [b]) = ckStep (ckAll st l) b := by rw [ck_app]; rfl
/-- pieces and rest are the text -/
theorem ck_text (st : CkS) (l : List UInt8) : (ckAll st l).2.1.flatten ++ (ckAll st l).2.2 = st.2.1.flatten ++ st.2.2 ++ l := by
  induction l generalizing st with
  | nil => simp [ckAll]
  | cons b l ih =>
    change (ckAll (ckStep st b) l).2.1.flatten ++ (ckAll (ckStep st b) l).2.2 = _
    rw [ih]
    unfold ckStep
    split <;> simp
/-- what was given stays -/
theorem ck_pref (st : CkS) (l : List UInt8) : ∃ q, (ckAll st l).2.1 = st.2.1 ++ q := by
  induction l generalizing st with
  | nil => exact ⟨[], by simp [ckAll]⟩
  | cons b l ih =>
    obtain ⟨q, hq⟩ := ih (ckStep st b)
    change ∃ q, (ckAll (ckStep st b) l).2.1 = _
    rw [hq]
    unfold ckStep
    split
    · exact ⟨_, List.append_assoc _ _ _⟩
    · exact ⟨_, rfl⟩
/-- what was given does not count -/
theorem ck_out (s : Nat) (o r l : List _) : ckAll (s, o, r) l = ((ckAll (s, [], r) l).1, o ++ (ckAll (s, [], r) l).2.1, (ckAll (s, [], r) l).2.2) := by
  induction l generalizing s o r with
  | nil => simp [ckAll]
  | cons b l ih =>
    change ckAll (ckStep (s, o, r) b) l = ((ckAll (ckStep (s, [], r) b) l).1, o ++ (ckAll (ckStep (s, [], r) b) l).2.1, (ckAll (ckStep (s, [], r) b) l).2.2)
    cases h : isCut (r.length + 1) (sumF s b)
    · rw [ck_no (st := (s, o, r)) h, ck_no (st := (s, [], r)) h]
      exact ih _ _ _
    · rw [ck_yes (st := (s, o, r)) h, ck_yes (st := (s, [], r)) h]
      rw [ih _ (o ++ _), ih _ ([] ++ _)]
      simp
theorem ck_rest (st : CkS) (hs : st.2.2.length < 128) (l : List UInt8) : (ckAll st l).2.2.length < 128 := by
  induction l generalizing st with
  | nil => exact hs
  | cons b l ih =>
    refine ih (ckStep st b) ?_
    cases h : isCut (st.2.2.length + 1) (sumF st.1 b)
    · rw [ck_no h]
      simp only [List.length_append, List.length_cons, List.length_nil]
      unfold isCut at h
      rcases Nat.lt_or_ge (st.2.2.length + 1) 128 with h1 | h1
      · omega
      · have h2 : st.2.2.length + 1 = 128 := by omega
        rw [h2] at h
        simp at h
    · rw [ck_yes h]; simp
theorem ck_len (st : CkS) (l : List UInt8) : (ckAll st l).2.1.length ≤ st.2.1.length + l.length := by
  induction l generalizing st with
  | nil => simp [ckAll]
  | cons b l ih =>
    have h := ih (ckStep st b)
    change (ckAll (ckStep st b) l).2.1.length ≤ _
    have h2 : (ckStep st b).2.1.length ≤ st.2.1.length + 1 := by unfold ckStep; split <;> simp
    simp only [List.length_cons]
    omega
theorem ck_len16 (st : CkS) (l : List UInt8) : 16 * (ckAll st l).2.1.length + (ckAll st l).2.2.length ≤ 16 * st.2.1.length + st.2.2.length + l.length := by
  induction l generalizing st with
  | nil => simp [ckAll]
  | cons b l ih =>
    have h := ih (ckStep st b)
    change 16 * (ckAll (ckStep st b) l).2.1.length + (ckAll (ckStep st b) l).2.2.length ≤ _
    have h2 : 16 * (ckStep st b).2.1.length + (ckStep st b).2.2.length ≤ 16 * st.2.1.length + st.2.2.length + 1 := by
      cases hc : isCut (st.2.2.length + 1) (sumF st.1 b)
      · rw [ck_no hc]; simp; omega
      · rw [ck_yes hc]
        unfold isCut at hc
        simp only [Bool.and_eq_true, decide_eq_true_eq] at hc
        simp
        omega
    simp only [List.length_cons]
    omega
/-- pieces -/
def tailP (r : List UInt8) : List (List UInt8) := if r = [] then [] else [r]
def cutC (l : List UInt8) : List (List UInt8) := (ck l).2.1 ++ tailP (ck l).2.2
theorem cutC_flat (l : List UInt8) : (cutC l).flatten = l := by
  have h := ck_text (0, [], []) l
  simp only [List.flatten_nil, List.nil_append] at h
  unfold cutC tailP ck
  split
  · next h0 => rw [h0] at h; simpa using h
  · simpa using h
theorem cutC_x (l : List UInt8) : (cutC (l ++ [120])).length = (ck l).2.1.length + 1 := by
  unfold cutC ck
  rw [ck_snoc]
  cases h : isCut ((ckAll (0, [], []) l).2.2.length + 1) (sumF (ckAll (0, [], []) l).1 120)
  · rw [ck_no h]; simp [tailP]
  · rw [ck_yes h]; simp [tailP]
theorem cutC_x_nil {l : List UInt8} (h : (ck l).2.2 = []) : cutC (l ++ [120]) = (ck l).2.1 ++ [[120]] := by
  unfold cutC ck at *
  rw [ck_snoc, ck_no (by rw [h]; simp [isCut]), h]
  simp [tailP]
theorem ck_take_step {s : List UInt8} {k : Nat} {x : UInt8} (h : s[k]? = some x) : ck (s.take (k + 1)) = ckStep (ck (s.take k)) x := by
  unfold ck
  rw [List.take_add_one, h]
  exact ck_snoc _ _ _
theorem ck_len_eq {s : List UInt8} {k sm : Nat} {o : List (List UInt8)} {r : List UInt8} (hk : k ≤ s.length) (h : ck (s.take k) = (sm, o, r)) : o.flatten.length + r.length = k ∧ s.take k = o.flatten ++ r := by
  have h2 := ck_text (0, [], []) (s.take k)
  unfold ck at h
  rw [h] at h2
  simp only [List.flatten_nil, List.nil_append] at h2
  have h3 := congrArg List.length h2
  rw [List.length_append, List.length_take] at h3
  exact ⟨by omega, h2.symm⟩
theorem ck_seg {s : List UInt8} {k sm F : Nat} {o : List (List UInt8)} {r : List UInt8} {x : UInt8} (h : ck (s.take k) = (sm, o, r)) (hx : s[k]? = some x) (hF : F + r.length = k) : (s.drop F).take (k + 1 - F) = r ++ [x] := by
  have hk : k < s.length := (List.getElem?_eq_some_iff.1 hx).1
  obtain ⟨h1, h2⟩ := ck_len_eq (by omega) h
  have h3 : (s.take (k + 1)).drop F = r ++ [x] := by
    rw [List.take_add_one, hx, h2, List.append_assoc, List.drop_left' (by omega)]
    rfl
  rw [← h3, List.drop_take]
theorem ck_end {s : List UInt8} {sm F : Nat} {o : List (List UInt8)} {r : List UInt8} (h : ck s = (sm, o, r)) (hF : F + r.length = s.length) : s.drop F = r := by
  have h0 : ck (s.take s.length) = (sm, o, r) := by rw [List.take_length]; exact h
  obtain ⟨h1, h2⟩ := ck_len_eq (Nat.le_refl _) h0
  rw [List.take_length] at h2
  conv => lhs; rw [h2]
  rw [List.drop_left' (by omega)]
theorem sum_seg {s : List UInt8} {k sm : Nat} {o : List (List UInt8)} {r : List UInt8} {x : UInt8} (h : ck (s.take k) = (sm, o, r)) (hx : s[k]? = some x) : sumC 0 ((s.drop (k - 31)).take (k + 1 - (k - 31))) = sumF sm x := by
  have hk : k < s.length := (List.getElem?_eq_some_iff.1 hx).1
  have h1 : sm = sumC 0 (s.take k) := by
    have h5 := ck_sum (0, [], []) (s.take k)
    unfold ck at h
    rw [h] at h5
    simpa only using h5
  have h2 : sumF sm x = sumC 0 (s.take (k + 1)) := by rw [List.take_add_one, hx, sumC_app, ← h1, Option.toList_some, sumC_one]
  rw [h2]
  have h3 : s.take (k + 1) = s.take (k - 31) ++ (s.drop (k - 31)).take (k + 1 - (k - 31)) := by
    rw [← List.take_add]
    congr 1
    omega
  rcases Nat.lt_or_ge 31 k with h4 | h4
  · rw [h3]
    refine (sumC_last ?_).symm
    rw [List.length_take, List.length_drop]
    omega
  · rw [show k - 31 = 0 from by omega, List.drop_zero, Nat.sub_zero]
theorem seg_step {s : List UInt8} {lo j : Nat} {x : UInt8} (hlo : lo ≤ j) (hx : s[j]? = some x) : sumC 0 ((s.drop lo).take (j + 1 - lo)) = sumF (sumC 0 ((s.drop lo).take (j - lo))) x := by
  rw [show j + 1 - lo = (j - lo) + 1 from by omega, List.take_add_one, List.getElem?_drop, show lo + (j - lo) = j from by omega, hx, sumC_app, Option.toList_some, sumC_one]
theorem isCut_lt {n sum : Nat} (h : n < 16) : isCut n sum = false := by unfold isCut; rw [decide_eq_false (by omega)]; rfl
theorem isCut_sum {n sum : Nat} (h : 16 ≤ n) (hs : sum < 134217728) : isCut n sum = true := by unfold isCut; rw [decide_eq_true h, decide_eq_true hs]; rfl
theorem isCut_128 {sum : Nat} : isCut 128 sum = true := by unfold isCut; simp
theorem isCut_no {n sum : Nat} (hs : ¬ sum < 134217728) (h : n ≠ 128) : isCut n sum = false := by unfold isCut; rw [decide_eq_false hs]; simp [h]
theorem cutC_nil {s : List UInt8} {sm : Nat} {o : List (List UInt8)} (h : ck s = (sm, o, [])) : cutC s = o := by unfold cutC; rw [h]; simp [tailP]
theorem cutC_some {s : List UInt8} {sm : Nat} {o : List (List UInt8)} {r : List UInt8} (h : ck s = (sm, o, r)) (hr : r ≠ []) : cutC s = o ++ [r] := by unfold cutC; rw [h]; simp [tailP, hr]
theorem cutC_cnt (s : List UInt8) : 16 * (cutC s).length ≤ s.length + 16 := by
  have := ck_len16 (0, [], []) s
  unfold cutC tailP ck
  rw [List.length_append]
  split <;> simp at * <;> omega
theorem ck_ext {l s r : List UInt8} {sm : Nat} {o : List (List UInt8)} (h : ck l = (sm, o, r)) : ck (l ++ s) = ((ckAll (sm, [], r) s).1, o ++ (ckAll (sm, [], r) s).2.1, (ckAll (sm, [], r) s).2.2) := by
  unfold ck at *
  rw [ck_app, h, ck_out]
theorem ck_rl (l : List UInt8) : (ck l).2.2.length < 128 := ck_rest (0, [], []) (by simp) l
theorem ck_sl (l : List UInt8) : (ck l).1 < 4294967296 := by unfold ck; rw [ck_sum]; exact sumC_lt (by omega) _
theorem cutC_take {l r : List UInt8} {sm : Nat} {o : List (List UInt8)} (h : ck l = (sm, o, r)) : (cutC l).take o.length = o ∧ (cutC l).drop o.length = tailP r := by
  have hc : cutC l = o ++ tailP r := by unfold cutC; rw [h]
  rw [hc, List.take_left, List.drop_left]
  exact ⟨rfl, rfl⟩
theorem cutC_length {l r : List UInt8} {sm : Nat} {o : List (List UInt8)} (h : ck l = (sm, o, r)) : (cutC l).length = o.length + (tailP r).length := by
  have hc : cutC l = o ++ tailP r := by unfold cutC; rw [h]
  rw [hc, List.length_append]
theorem tailP_nil : tailP [] = [] := rfl
theorem tailP_some {r : List UInt8} (h : r ≠ []) : tailP r = [r] := by unfold tailP; rw [if_neg h]
theorem cutC_x_len {l r : List UInt8} {sm : Nat} {o : List (List UInt8)} (h : ck l = (sm, o, r)) : (cutC (l ++ [120])).length = o.length + 1 := by rw [cutC_x, h]
theorem cutC_x_at {l : List UInt8} {sm k : Nat} {o : List (List UInt8)} {p : List UInt8} (h : ck l = (sm, o, [])) (hp : (cutC l)[k]? = some p) : (cutC (l ++ [120]))[k]? = some p := by
  have hc : cutC l = o := cutC_nil h
  rw [cutC_x_nil (by rw [h]), h]
  rw [hc] at hp
  rw [List.getElem?_append_left (List.getElem?_eq_some_iff.1 hp).1]
  exact hp
theorem new_pieces {l s r : List UInt8} {sm : Nat} {o : List (List UInt8)} (h : ck l = (sm, o, r)) : ((cutC (l ++ s)).drop o.length).take ((o ++ (ckAll (sm, [], r) s).2.1).length - o.length) = (ckAll (sm, [], r) s).2.1 := by
  have h2 := ck_ext (s := s) h
  have hc : cutC (l ++ s) = o ++ (ckAll (sm, [], r) s).2.1 ++ tailP (ckAll (sm, [], r) s).2.2 := by unfold cutC; rw [h2]
  rw [hc, List.append_assoc, List.drop_left, List.length_append, Nat.add_sub_cancel_left, List.take_left]
theorem sumF_walk (n : Nat) (hn : n < 4294967296) (x : UInt8) : IntKind.u64.wrap (IntKind.u64.wrap (2 * (n : Int)) + IntKind.u64.wrap (gear x : Nat)) = ((2 * n + gear x : Nat) : Int) := by
  have hg := gear_lt x
  generalize gear x = g at *
  have e1 : IntKind.u64.wrap (2 * (n : Int)) = 2 * (n : Int) := IntWalk.u64_in _ ⟨by omega, by omega⟩
  have e3 : IntKind.u64.wrap (g : Int) = (g : Int) := IntWalk.u64_in _ ⟨by omega, by omega⟩
  have e2 : IntKind.u64.wrap (2 * (n : Int) + g) = 2 * (n : Int) + g := IntWalk.u64_in _ ⟨by omega, by omega⟩
  rw [e1, e3, e2]
  omega
end Go.Larder

/- append of new elements: the row stays where it was or lies in a new block; every other block is as it was. No program in sight. -/
namespace Go.Larder
open Go.RowKit
set_option linter.unusedVariables false
set_option linter.unusedSimpArgs false
section
variable {P : Program} {w : World} {ops : Array Oper} {rest : List Oper} {o : Oper} {a : Act} {Q : Exit → Act → World → Prop} {t e : TypeId} {bytes : Nat} {α : Type} {base c : Nat} {A : Option Addr} {l : List α}
theorem OwnL.form {E : ElemT α} (h : OwnL E w base e A c l) : (A = none ∧ l.length = 0 ∧ c = 0) ∨ ∃ g, A = some ⟨g, 0, none⟩ ∧ base ≤ g ∧ g < w.heap.size := by
  obtain ⟨_, h2⟩ := h
  rcases h2 with ⟨hv, h0⟩ | ⟨g, cap, cur, hv, hg, hh, r⟩
  · injection hv with hA hl hc
    exact .inl ⟨hA, h0, hc⟩
  · injection hv with hA _ _
    refine .inr ⟨g, hA, hg, ?_⟩
    rcases Nat.lt_or_ge g w.heap.size with h' | h'
    · exact h'
    · simp [Array.getElem?_eq_none h'] at hh
theorem wpList_appF (E : ElemT α) (T : SlT P t e E.size bytes) (news : List α) (hgd : o.guard = none) (s x : Operand)
    (ho : o.op = .call { callee := .builtin .append, args := #[s, x], argTypes := #[t, t] })
    (hs : a.eval s = .slice A l.length c) (hown : OwnL E w base e A c l) (cs : Array Value) (hcs : cs.toList = news.flatMap E.enc) (m : Nat) (hm : news.length = m + 1)
    (hx : a.eval x = .slice (some ⟨w.heap.size, 0, none⟩) (m + 1) (m + 1)) (hb : (l.length + (m + 1)) * bytes ≤ 140737488355328) (h63 : l.length + (m + 1) ≤ maxLen) (hbase : base ≤ w.heap.size)
    (k : ∀ g c' w', OwnL E w' base e (some ⟨g, 0, none⟩) c' (l ++ news) → (A = some ⟨g, 0, none⟩ ∨ w.heap.size < g) → (∀ b, b < w.heap.size → A ≠ some ⟨b, 0, none⟩ → w'.heap[b]? = w.heap[b]?) → Below base w w' → wpList P ops Q rest (a.put o.dst (.slice (some ⟨g, 0, none⟩) (l.length + (m + 1)) c')) w') :
    wpList P ops Q (o :: rest) a (w.alloc (.cells cs e)) := by
  obtain ⟨i, z, hi, hz, hz1, hz2, hz3⟩ := T.info
  have hsz : (w.alloc (.cells cs e)).heap.size = w.heap.size + 1 := by simp
  have hnews : ∀ j u, (news.flatMap E.enc)[j]? = some u → (w.alloc (.cells cs e)).cell? ((⟨w.heap.size, 0, none⟩ : Addr).add j) = some u := fun j u hj =>
    World.news_of_block (heap_alloc_new w (.cells cs e)) j u (by rw [hcs]; exact hj)
  have hl : (l ++ news).length = l.length + (m + 1) := by simp [hm]
  have hown2 := OwnL.alloc hown (.cells cs e)
  by_cases hfit : l.length + (m + 1) ≤ c
  · rcases hown.form with ⟨rfl, h0, rfl⟩ | ⟨g, rfl, hg, hlt⟩
    · omega
    · refine wpList_append_fits _ hgd s x t ho base e i E.size T.ht hi hz1 g l.length c (l.flatMap E.enc) hs hown2 ⟨w.heap.size, 0, none⟩ (m + 1) (m + 1) (news.flatMap E.enc) hx (by rw [E.length_flatMap, hm]) hnews (E.one_flatMap news) hfit ?_
      intro w' r1 r2
      refine k g c w' (by unfold OwnL; rw [hl, List.flatMap_append]; exact r1) (.inl rfl) (fun b hb hne => (r2.block b (by rw [hsz]; omega) (fun h => by injection h with h; exact hne (by rw [h]))).trans (Below.heap_alloc w _ b hb))
        ⟨r2.os, r2.tape, r2.output, Nat.le_trans (by simp) r2.size, fun b hb => (r2.block b (by rw [hsz]; omega) (fun h => by injection h with h; omega)).trans (Below.heap_alloc w _ b (by omega))⟩
  · refine wpList_append_grows _ hgd s x t ho e i z E.size bytes T.ht hi hz hz1 hz2 hz3 E.pos A l.length c (l.flatMap E.enc) hs ?_ (E.length_flatMap l) ?_ ⟨w.heap.size, 0, none⟩ (m + 1) (m + 1) (news.flatMap E.enc) hx (by rw [E.length_flatMap, hm]) hnews (E.one_flatMap news) (by omega) h63 hb ?_
    · intro hA
      rcases hown.form with ⟨_, h0, h1⟩ | ⟨g, h, _⟩
      · exact ⟨h0, h1⟩
      · rw [hA] at h; cases h
    · intro ad hA j u hj
      subst hA
      obtain ⟨k', r, y, rfl, hy, hu⟩ := flat_at E l j u hj
      obtain ⟨b', off', hA2, _, hc⟩ := hown2.read.at_ hy
      injection hA2 with hA2
      subst hA2
      have hadd : ∀ i, (⟨b', off', none⟩ : Addr).add i = ⟨b', off' + i, none⟩ := fun i => by unfold Addr.add; split <;> simp_all
      rw [hadd, ← Nat.add_assoc]
      exact hc r u hu
    · intro v' w' h1 h2
      obtain ⟨g, cap, rfl, hg⟩ : ∃ g cap, v' = .slice (some ⟨g, 0, none⟩) (l.length + (m + 1)) cap ∧ (w.alloc (.cells cs e)).heap.size ≤ g := by
        rcases h1.2 with ⟨_, h0⟩ | ⟨g, cap, _, rfl, hg, _⟩
        · omega
        · exact ⟨g, cap, rfl, hg⟩
      refine k g cap w' ?_ (.inr (by omega)) (fun b hb hne => (h2.block b (by rw [hsz]; omega) (by simp)).trans (Below.heap_alloc w _ b hb))
        ⟨h2.os, h2.tape, h2.output, Nat.le_trans (by simp) h2.size, fun b hb => (h2.block b (by rw [hsz]; omega) (by simp)).trans (Below.heap_alloc w _ b (by omega))⟩
      unfold OwnL
      rw [hl, List.flatMap_append]
      obtain ⟨q1, q2⟩ := h1
      refine ⟨q1, ?_⟩
      rcases q2 with q2 | ⟨g2, c2, cur, e1, e2, r⟩
      · exact .inl q2
      · exact .inr ⟨g2, c2, cur, e1, by omega, r⟩
end
end Go.Larder

/- Numbers written to the base of 16. No program in sight. -/
namespace Go.Larder
set_option linter.unusedSimpArgs false
set_option linter.unusedVariables false
def hxTab : List UInt8 := [48, 49, 50, 51, 52, 53, 54, 55, 56, 57, 97, 98, 99, 100, 101, 102]
def hexd (k : Nat) : UInt8 := hxTab.getD k 0
def hxL (n : Nat) : List UInt8 := if h : n < 16 then [hexd n] else hxL (n / 16) ++ [hexd (n % 16)]
theorem hxL_one {n : Nat} (h : n < 16) : hxL n = [hexd n] := by rw [hxL, dif_pos h]
theorem hxL_step {n : Nat} (h : ¬ n < 16) : hxL n = hxL (n / 16) ++ [hexd (n % 16)] := by rw [hxL, dif_neg h]
theorem hxL_pos (n : Nat) : 1 ≤ (hxL n).length := by
  by_cases h : n < 16
  · rw [hxL_one h]; simp
  · rw [hxL_step h]; simp
theorem hxL_len {n : Nat} (h : n ≤ 5000) : (hxL n).length ≤ 4 := by
  have e : ∀ m : Nat, m < 16 → (hxL m).length = 1 := fun m hm => by rw [hxL_one hm]; rfl
  have s : ∀ m : Nat, ¬ m < 16 → (hxL m).length = (hxL (m / 16)).length + 1 := fun m hm => by rw [hxL_step hm]; simp
  by_cases h1 : n < 16
  · rw [e n h1]; omega
  · rw [s n h1]
    by_cases h2 : n / 16 < 16
    · rw [e _ h2]; omega
    · rw [s _ h2]
      by_cases h3 : n / 16 / 16 < 16
      · rw [e _ h3]; omega
      · rw [s _ h3, e _ (by omega)]; omega
theorem sixteen {P : Nat → Prop} (h0 : P 0) (h1 : P 1) (h2 : P 2) (h3 : P 3) (h4 : P 4) (h5 : P 5) (h6 : P 6) (h7 : P 7) (h8 : P 8) (h9 : P 9) (h10 : P 10) (h11 : P 11) (h12 : P 12) (h13 : P 13) (h14 : P 14) (h15 : P 15) : ∀ k, k < 16 → P k
  | 0, _ => h0 | 1, _ => h1 | 2, _ => h2 | 3, _ => h3 | 4, _ => h4 | 5, _ => h5 | 6, _ => h6 | 7, _ => h7 | 8, _ => h8 | 9, _ => h9 | 10, _ => h10 | 11, _ => h11 | 12, _ => h12 | 13, _ => h13 | 14, _ => h14 | 15, _ => h15
  | n + 16, h => absurd h (by omega)
end Go.Larder

/- Slices of rows of whatever elements. No program in sight. -/
namespace Go.Larder
open Go.RowKit
set_option linter.unusedVariables false
set_option linter.unusedSectionVars false
set_option linter.unusedSimpArgs false
theorem addr_add (b off k : Nat) : (⟨b, off, none⟩ : Addr).add k = ⟨b, off + k, none⟩ := by unfold Addr.add; split <;> simp_all
section
variable {P : Program} {α : Type} {E : ElemT α} {t e : TypeId} {bytes : Nat}
theorem slicedG {A : Option Addr} {lo hi c : Nat} (hc : hi ≤ c) : ∃ A', sliced A lo hi c E.size = .slice A' (hi - lo) (c - lo) ∧ (∀ a', A' = some a' → ∃ a, A = some a ∧ a'.block = a.block) ∧ ∀ {l : List α} {w : World} {B : Nat}, hi ≤ l.length → ReadL E w B A l → ReadL E w B A' ((l.drop lo).take (hi - lo)) := by
  refine ⟨_, rfl, ?_, ?_⟩
  · intro a' ha
    by_cases h : c = lo
    · rw [if_pos h] at ha; exact ⟨a', ha, rfl⟩
    · rw [if_neg h] at ha
      cases A with
      | none => cases ha
      | some a =>
        refine ⟨a, rfl, ?_⟩
        simp only [Option.map_some, Option.some.injEq] at ha
        rw [← ha]
        unfold Addr.add
        split <;> rfl
  · intro l w B hl h
    by_cases he : hi ≤ lo
    · rw [show hi - lo = 0 from by omega, List.take_zero]
      exact ReadL.nil
    · rw [if_neg (by omega)]
      obtain ⟨x, hx⟩ : ∃ x, l[0]? = some x := ⟨_, List.getElem?_eq_getElem (by omega)⟩
      obtain ⟨b, off, rfl, _⟩ := h.at_ hx
      have h2 := (h.drop lo).take (hi - lo)
      rw [Option.map_some, addr_add]
      exact h2
variable (hel : P.elem t = e) (T : SlT P t e E.size bytes)
include hel T
theorem sizeOfG (w : World) : (sizeOf e).run P w = .ok E.size w := by
  obtain ⟨i, z, hi, _, hs, _⟩ := T.info
  simp [sizeOf, typeInfo, hi]
  exact hs
theorem undG : P.underlying t = some (.slice (P.elem t)) := by rw [hel]; exact T.ht
theorem run_sliceLG (A : Option Addr) (n c lo : Nat) (h1 : lo ≤ n) (h2 : n ≤ c) : ∃ A', (∀ w, (Instr.slice t (.slice A n c) (some (.int .i64 (lo : Int))) none none).run P w = .ok (.slice A' (n - lo) (c - lo)) w) ∧ (∀ a', A' = some a' → ∃ a, A = some a ∧ a'.block = a.block) ∧
    ∀ {l : List α} {w : World} {B : Nat}, l.length = n → ReadL E w B A l → ReadL E w B A' (l.drop lo) := by
  obtain ⟨A', hA, hbk, hr⟩ := slicedG (E := E) (A := A) (lo := lo) h2
  refine ⟨A', fun w => ?_, hbk, ?_⟩
  · refine (run_slice_l (P := P) (w := w) (t := t) (a := A) (len := n) (cap := c) (undG hel T) .i64 (lo : Int) (by omega) (by omega)).trans ?_
    rw [hel, sizeOfG hel T]
    simp only [Result.andThen, Int.toNat_natCast, hA]
  · intro l w B hl h
    have := hr (by omega) h
    rwa [List.take_of_length_le (by rw [List.length_drop]; omega)] at this
theorem run_sliceHG (A : Option Addr) (n c hi : Nat) (h2 : hi ≤ c) : ∃ A', (∀ w, (Instr.slice t (.slice A n c) none (some (.int .i64 (hi : Int))) none).run P w = .ok (.slice A' hi c) w) ∧ (∀ a', A' = some a' → ∃ a, A = some a ∧ a'.block = a.block) ∧
    ∀ {l : List α} {w : World} {B : Nat}, hi ≤ l.length → ReadL E w B A l → ReadL E w B A' (l.take hi) := by
  obtain ⟨A', hA, hbk, hr⟩ := slicedG (E := E) (A := A) (lo := 0) h2
  refine ⟨A', fun w => ?_, hbk, ?_⟩
  · refine (run_slice_h (P := P) (w := w) (t := t) (a := A) (len := n) (cap := c) (undG hel T) .i64 (hi : Int) (by omega) (by omega)).trans ?_
    rw [hel, sizeOfG hel T]
    simp only [Result.andThen, Int.toNat_natCast, hA, Nat.sub_zero]
  · intro l w B hl h
    exact hr hl h
end
end Go.Larder

