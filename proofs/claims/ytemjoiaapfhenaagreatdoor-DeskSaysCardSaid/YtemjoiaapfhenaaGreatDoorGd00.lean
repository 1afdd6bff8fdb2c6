/- Base, Frame, DoorSep, SpecLog, SpecDig, SpecDg2, SpecDg3, Box, BoxAt, Rng, AppI, App, Chg, SpecCutOne, SpecSpl, AppG, SpecLow, SpecIs, SpecTok, SpecCut, SpecDir, SpecQuo, SpecSpan, SpecSpp, SpecCtp, SpecTag, SpecTgt, SpecAny, SpecNrm, SpecNum, SpecDec, SpecCt, SpecCtr, SpecWnt, SpecChk, SpecDate, SpecDtp -/
import Derived.WalkKit
import Derived.WalkSpells
import Derived.WalkLawsBesides
import Derived.Handy
import Derived.Lib.Hide
import Derived.Lib.Strings
import Derived.Lib.ConvBytes
import Derived.Laws.BytesArg
import Derived.Deep.Draws
import Derived.Deep.AppendLies
import Derived.Maps.AppendAt
import Derived.Lib.AppendStr
import Derived.ProofKit
import Derived.OpenShut
import Derived.ShutString
import Derived.ChangeOld
import Derived.HandedShaped
import Derived.JoinedCond
import Derived.Deep.Slices
import Derived.LaidLaws
import Derived.Laws.BitsAllLaws
import Derived.KernelRfl
import Derived.Laws.Rows
import Derived.Laws.ResultCell
import Derived.Laws.IdiomCopy
import Derived.RangeFuncNested
import Derived.RangeFuncBound
import Derived.RangeFuncCalls
import Derived.RangeFuncLeaves
import Derived.OwnWalkIn
import Derived.Lib.SliceRun
import Derived.Lib.Bytealg
import Derived.Lib.SplitLaws
import Derived.Lib.Join
import Derived.ArgAppend
import Derived.Laws.IdiomStrings
import Derived.Laws.World
import Derived.Lib.Replace
import Derived.Lib.IndexLaws
import Derived.Lib.IndexBytes
import Derived.Lib.ItoaLen
import Derived.Lib.IndexAny
import Derived.Lib.AtoiTie

/- Base -/
section
namespace Go.Larder
open Go.RowKit
set_option linter.unusedVariables false
set_option linter.unusedSimpArgs false

/-- A text's value, by its bytes. -/
abbrev S (l : List UInt8) : Value := .string ⟨l.toArray⟩

theorem ba_size (l : List UInt8) : (⟨l.toArray⟩ : ByteArray).size = l.length := by show l.toArray.size = _; simp
theorem ba_get (l : List UInt8) (i : Nat) (h : i < (⟨l.toArray⟩ : ByteArray).size) : (⟨l.toArray⟩ : ByteArray)[i]'h = l[i]'(by rw [ba_size] at h; exact h) := by
  show (l.toArray)[i]'_ = _
  simp
theorem ba_extract (l : List UInt8) (a b : Nat) : (⟨l.toArray⟩ : ByteArray).extract a b = ⟨((l.drop a).take (b - a)).toArray⟩ := ByteArray.extract_mk l a b
theorem ba_append (l m : List UInt8) : (⟨l.toArray⟩ : ByteArray) ++ (⟨m.toArray⟩ : ByteArray) = ⟨(l ++ m).toArray⟩ := by
  apply ByteArray.ext
  simp
theorem ba_toList (l : List UInt8) : (⟨l.toArray⟩ : ByteArray).toList = l := by rw [Lib.toList_data]
theorem isEmpty_snoc {α : Type} (l : List α) (b : α) : (l ++ [b]).isEmpty = false := by simp
theorem int_bne (a b : Int) : (a != b) = !(a == b) := rfl
theorem wrap64_u8 (c : UInt8) : wrap64 (c.toNat : Int) = c.toNat := IntWalk.wrap64_in _ ⟨by have := c.toNat_lt; omega, by have := c.toNat_lt; omega⟩
theorem sing_q (x : UInt8) (n : UInt8) : ([x] == [n]) = ((x.toNat : Int) == (n.toNat : Int)) := by
  rw [Bool.eq_iff_iff]
  simp
  constructor
  · rintro rfl; rfl
  · intro h; exact UInt8.toNat_inj.1 (by omega)
theorem u8_mod32 (c : UInt8) : (c.toNat : Int) % 4294967296 = c.toNat := by have := c.toNat_lt; omega
attribute [go_sem] u8_mod32 wrap64_u8 int_bne ba_size ba_get ba_extract ba_append ba_toList isEmpty_snoc

/-- A text's length, off its value: for a loop's measure. -/
def lenOf : Value → Nat
  | .string b => b.size
  | _ => 0
theorem lenOf_S (l : List UInt8) : lenOf (S l) = l.length := ba_size l

theorem lenOf_empty : lenOf (.string ByteArray.empty) = 0 := rfl

theorem ret_bool {a b : Bool} (h : a = b) : Ending.returned (.bool a) = .returned (.bool b) := by rw [h]
theorem ret_int {k : IntKind} {a b : Int} (h : a = b) : Ending.returned (.int k a) = .returned (.int k b) := by rw [h]
theorem ret_S {a b : List UInt8} (h : a = b) : Ending.returned (S a) = .returned (S b) := by rw [h]

/-- What a test on a byte says of it. -/
theorem u8_beq (c : UInt8) (n : Nat) (h : n < 256) : ((c.toNat : Int) == (n : Int)) = (c == UInt8.ofNat n) := by
  rw [Bool.eq_iff_iff, beq_iff_eq, beq_iff_eq]
  constructor
  · intro e
    have : c.toNat = n := by omega
    rw [← this]; simp
  · rintro rfl
    simp; omega

theorem drop_step {α : Type} {l : List α} {k : Nat} (h : k < l.length) : ∃ x, l[k]? = some x ∧ l.drop k = x :: l.drop (k + 1) :=
  ⟨l[k], List.getElem?_eq_getElem h, List.drop_eq_getElem_cons h⟩
theorem drop_end {α : Type} {l : List α} {k : Nat} (h : ¬ k < l.length) : l.drop k = [] := List.drop_eq_nil_of_le (by omega)

theorem nil_or_snoc {α : Type} (l : List α) : l = [] ∨ ∃ m b, l = m ++ [b] := by
  rcases List.eq_nil_or_concat l with h | ⟨m, b, h⟩
  · exact .inl h
  · exact .inr ⟨m, b, by simpa using h⟩

/-- How an element lies in cells. -/
structure ElemT (α : Type) where
  enc : α → List Value
  size : Nat
  len : ∀ a, (enc a).length = size
  one : ∀ a, ∀ u ∈ enc a, u.oneCell' = true
  pos : 0 < size

def encB : ElemT UInt8 := ⟨fun b => [.int .u8 b.toNat], 1, fun _ => rfl, fun _ u hu => by simp at hu; subst hu; rfl, by omega⟩
def encS : ElemT (List UInt8) := ⟨fun s => [S s], 1, fun _ => rfl, fun _ u hu => by simp at hu; subst hu; rfl, by omega⟩
def encI : ElemT Int := ⟨fun n => [.int .i64 n], 1, fun _ => rfl, fun _ u hu => by simp at hu; subst hu; rfl, by omega⟩
/-- Two texts: a field, a parameter. -/
def encF : ElemT (List UInt8 × List UInt8) := ⟨fun f => [S f.1, S f.2], 2, fun _ => rfl, fun _ u hu => by simp at hu; rcases hu with rfl | rfl <;> rfl, by omega⟩
/-- Two numbers. -/
def encII : ElemT (Int × Int) := ⟨fun f => [.int .i64 f.1, .int .i64 f.2], 2, fun _ => rfl, fun _ u hu => by simp at hu; rcases hu with rfl | rfl <;> rfl, by omega⟩

section
variable {α : Type} (E : ElemT α)

theorem ElemT.length_flatMap (l : List α) : (l.flatMap E.enc).length = l.length * E.size := by
  induction l with
  | nil => simp
  | cons a l ih => simp [List.flatMap_cons, E.len, ih, Nat.add_mul]; omega

theorem ElemT.one_flatMap (l : List α) : ∀ u ∈ l.flatMap E.enc, u.oneCell' = true := by
  intro u hu
  obtain ⟨a, _, h⟩ := List.mem_flatMap.1 hu
  exact E.one a u h

theorem ElemT.get_flatMap : ∀ (l : List α) (k : Nat) (a : α) (j : Nat) (u : Value), l[k]? = some a → (E.enc a)[j]? = some u → (l.flatMap E.enc)[k * E.size + j]? = some u
  | [], k, a, j, u, h, _ => by simp at h
  | x :: l, 0, a, j, u, h, hj => by
    simp at h
    subst h
    rw [List.flatMap_cons, Nat.zero_mul, Nat.zero_add, List.getElem?_append_left]
    · exact hj
    · exact (List.getElem?_eq_some_iff.1 hj).1
  | x :: l, k + 1, a, j, u, h, hj => by
    rw [List.getElem?_cons_succ] at h
    rw [List.flatMap_cons, List.getElem?_append_right (by rw [E.len, Nat.add_mul]; omega), E.len, show (k + 1) * E.size + j - E.size = k * E.size + j from by rw [Nat.add_mul]; omega]
    exact ElemT.get_flatMap l k a j u h hj

/-- The slice '.slice A l.length _' reads as l, in a block below B. -/
def ReadL (w : World) (B : Nat) (A : Option Addr) (l : List α) : Prop :=
  0 < l.length → ∃ b off, A = some ⟨b, off, none⟩ ∧ b < B ∧ ∀ k a, l[k]? = some a → ∀ j u, (E.enc a)[j]? = some u → w.cell? ⟨b, off + k * E.size + j, none⟩ = some u

/-- The slice '.slice A l.length c' holds l in a row of the call's own (from block 'base' on). -/
def OwnL (w : World) (base : Nat) (e : TypeId) (A : Option Addr) (c : Nat) (l : List α) : Prop :=
  w.ownsRow base e E.size (.slice A l.length c) l.length (l.flatMap E.enc)
end

section
variable {α : Type} {E : ElemT α} {w w' : World} {B B' base : Nat} {e : TypeId} {A : Option Addr} {c : Nat} {l : List α}

theorem ReadL.nil : ReadL E w B A ([] : List α) := fun h => absurd h (by simp)
theorem ReadL.keep (h : ReadL E w B A l) (hk : ∀ p : Addr, p.block < B → w'.cell? p = w.cell? p) : ReadL E w' B A l := fun hn => by
  obtain ⟨b, off, rfl, hb, hc⟩ := h hn
  exact ⟨b, off, rfl, hb, fun k a ha j u hu => (hk _ hb).trans (hc k a ha j u hu)⟩
theorem ReadL.more (h : ReadL E w B A l) (hB : B ≤ B') : ReadL E w B' A l := fun hn => by
  obtain ⟨b, off, rfl, hb, hc⟩ := h hn
  exact ⟨b, off, rfl, by omega, hc⟩
theorem ReadL.below (h : ReadL E w B A l) (hb : Below B' w w') (hB : B ≤ B') : ReadL E w' B A l := h.keep fun _ hp => hb.cell (by omega)
theorem ReadL.alloc (h : ReadL E w B A l) (hB : B ≤ w.heap.size) (o : Obj) : ReadL E (w.alloc o) B A l := h.keep fun p hp => World.cell?_alloc_lt w o p (by omega)
theorem ReadL.at_ (h : ReadL E w B A l) {k : Nat} {a : α} (ha : l[k]? = some a) :
    ∃ b off, A = some ⟨b, off, none⟩ ∧ b < B ∧ ∀ j u, (E.enc a)[j]? = some u → w.cell? ⟨b, off + k * E.size + j, none⟩ = some u := by
  obtain ⟨b, off, rfl, hb, hc⟩ := h (by have := (List.getElem?_eq_some_iff.1 ha).1; omega)
  exact ⟨b, off, rfl, hb, hc k a ha⟩
theorem ReadL.at_B {l : List UInt8} (h : ReadL encB w B A l) {k : Nat} {x : UInt8} (hx : l[k]? = some x) : ∃ b off, A = some ⟨b, off, none⟩ ∧ b < B ∧ w.cell? ⟨b, off + k, none⟩ = some (.int .u8 x.toNat) := by
  obtain ⟨b, off, hA, hb, hc⟩ := h.at_ hx
  exact ⟨b, off, hA, hb, by simpa [encB] using hc 0 _ rfl⟩
theorem ReadL.at_S {l : List (List UInt8)} (h : ReadL encS w B A l) {k : Nat} {x : List UInt8} (hx : l[k]? = some x) : ∃ b off, A = some ⟨b, off, none⟩ ∧ b < B ∧ w.cell? ⟨b, off + k, none⟩ = some (S x) := by
  obtain ⟨b, off, hA, hb, hc⟩ := h.at_ hx
  exact ⟨b, off, hA, hb, by simpa [encS] using hc 0 _ rfl⟩
theorem ReadL.at_I {l : List Int} (h : ReadL encI w B A l) {k : Nat} {x : Int} (hx : l[k]? = some x) : ∃ b off, A = some ⟨b, off, none⟩ ∧ b < B ∧ w.cell? ⟨b, off + k, none⟩ = some (.int .i64 x) := by
  obtain ⟨b, off, hA, hb, hc⟩ := h.at_ hx
  exact ⟨b, off, hA, hb, by simpa [encI] using hc 0 _ rfl⟩
theorem ReadL.at_F {l : List (List UInt8 × List UInt8)} (h : ReadL encF w B A l) {k : Nat} {x : List UInt8 × List UInt8} (hx : l[k]? = some x) :
    ∃ b off, A = some ⟨b, off, none⟩ ∧ b < B ∧ w.cell? ⟨b, off + k * 2, none⟩ = some (S x.1) ∧ w.cell? ⟨b, off + k * 2 + 1, none⟩ = some (S x.2) := by
  obtain ⟨b, off, hA, hb, hc⟩ := h.at_ hx
  exact ⟨b, off, hA, hb, by simpa [encF] using hc 0 _ rfl, by simpa [encF] using hc 1 _ rfl⟩
theorem ReadL.at_II {l : List (Int × Int)} (h : ReadL encII w B A l) {k : Nat} {x : Int × Int} (hx : l[k]? = some x) :
    ∃ b off, A = some ⟨b, off, none⟩ ∧ b < B ∧ w.cell? ⟨b, off + k * 2, none⟩ = some (.int .i64 x.1) ∧ w.cell? ⟨b, off + k * 2 + 1, none⟩ = some (.int .i64 x.2) := by
  obtain ⟨b, off, hA, hb, hc⟩ := h.at_ hx
  exact ⟨b, off, hA, hb, by simpa [encII] using hc 0 _ rfl, by simpa [encII] using hc 1 _ rfl⟩
/-- A literal's block reads as the list. -/
theorem ReadL.lit (w : World) (cs : Array Value) (e : TypeId) (l : List α) (h : cs.toList = l.flatMap E.enc) : ReadL E (w.alloc (.cells cs e)) (w.heap.size + 1) (some ⟨w.heap.size, 0, none⟩) l := fun _ =>
  ⟨_, 0, rfl, by omega, fun k a ha j u hu => by
    have := E.get_flatMap l k a j u ha hu
    rw [← h, Array.getElem?_toList] at this
    rw [cell_of_row _ _ _ cs e (0, 0) (heap_alloc_new w _), Nat.zero_add]
    exact this⟩
theorem ReadL.lit' (w : World) (cs : Array Value) (e : TypeId) (l : List α) (h : cs.toList = l.flatMap E.enc) {g : Nat} (hg : g = w.heap.size) : ReadL E (w.alloc (.cells cs e)) (g + 1) (some ⟨g, 0, none⟩) l := by
  subst hg
  exact ReadL.lit w cs e l h
/-- The slice's tail from k on ('s[k:]' keeps the address at the very end). -/
theorem ReadL.drop {b off : Nat} (h : ReadL E w B (some ⟨b, off, none⟩) l) (k : Nat) : ReadL E w B (some ⟨b, off + k * E.size, none⟩) (l.drop k) := fun hn => by
  rw [List.length_drop] at hn
  obtain ⟨b', off', hA, hb, hc⟩ := h (by omega)
  injection hA with hA
  injection hA with h1 h2
  subst h1 h2
  refine ⟨_, _, rfl, hb, fun i a ha j u hu => ?_⟩
  rw [List.getElem?_drop] at ha
  have := hc (k + i) a ha j u hu
  rwa [Nat.add_mul, ← Nat.add_assoc] at this
theorem ReadL.take (h : ReadL E w B A l) (k : Nat) : ReadL E w B A (l.take k) := fun hn => by
  rw [List.length_take] at hn
  obtain ⟨b, off, hA, hb, hc⟩ := h (by omega)
  refine ⟨b, off, hA, hb, fun i a ha j u hu => hc i a ?_ j u hu⟩
  rw [List.getElem?_take] at ha
  split at ha
  · exact ha
  · cases ha

theorem OwnL.nil (w : World) (base : Nat) (e : TypeId) : OwnL E w base e none 0 ([] : List α) := World.ownsRow_nil _ _ _ _
theorem OwnL.read (h : OwnL E w base e A c l) : ReadL E w w.heap.size A l := fun hn => by
  obtain ⟨_, h2⟩ := h
  rcases h2 with ⟨hv, _⟩ | ⟨g, cap, cur, hv, hg, hh, hnc, _, hcs, hcur⟩
  · injection hv with _ hl
    omega
  · injection hv with hA _ _
    subst hA
    refine ⟨g, 0, rfl, ?_, fun k a ha j u hu => ?_⟩
    · rcases Nat.lt_or_ge g w.heap.size with h' | h'
      · exact h'
      · simp [Array.getElem?_eq_none h'] at hh
    · have hx := E.get_flatMap l k a j u ha hu
      rw [cell_of_row w g _ cur e (0, 0) hh, Nat.zero_add, ← Array.getElem?_toList]
      rw [← hcur, List.getElem?_take] at hx
      split at hx
      · exact hx
      · cases hx
theorem OwnL.lt (h : OwnL E w base e A c l) : ∀ g, A = some g → base ≤ g.block ∧ g.block < w.heap.size := fun g hg => by
  subst hg
  exact World.ownsRow.lt h g.block rfl
theorem OwnL.keep (h : OwnL E w base e A c l) (hk : ∀ g, A = some g → w'.heap[g.block]? = w.heap[g.block]?) : OwnL E w' base e A c l := by
  obtain ⟨h1, h2⟩ := h
  refine ⟨h1, ?_⟩
  rcases h2 with h2 | ⟨g, cap, cur, hv, hg, hh, r⟩
  · exact .inl h2
  · injection hv with hA h3 h4
    exact .inr ⟨g, cap, cur, by rw [hA, h4], hg, (hk _ hA).trans hh, r⟩
theorem OwnL.below (h : OwnL E w base e A c l) (hb : Below B w w') (hB : w.heap.size ≤ B) : OwnL E w' base e A c l :=
  h.keep fun g hg => hb.block _ (by have := (h.lt g hg).2; omega)
theorem OwnL.alloc (h : OwnL E w base e A c l) (o : Obj) : OwnL E (w.alloc o) base e A c l := World.ownsRow.alloc h o
theorem OwnL.drew (h : OwnL E w base e A c l) : OwnL E w.drew base e A c l := h
theorem OwnL.drewN (h : OwnL E w base e A c l) (n : Nat) : OwnL E (w.drewN n) base e A c l := h
theorem OwnL.base_le (h : OwnL E w base e A c l) {base' : Nat} (hb : base' ≤ base) : OwnL E w base' e A c l := by
  obtain ⟨h1, h2⟩ := h
  refine ⟨h1, ?_⟩
  rcases h2 with h2 | ⟨g, cap, cur, hv, hg, r⟩
  · exact .inl h2
  · exact .inr ⟨g, cap, cur, hv, by omega, r⟩
theorem OwnL.some_ (h : OwnL E w base e A c l) (hl : 0 < l.length) : ∃ g, A = some ⟨g, 0, none⟩ ∧ base ≤ g ∧ g < w.heap.size := by
  obtain ⟨_, h2⟩ := h
  rcases h2 with ⟨hv, h0⟩ | ⟨g, cap, cur, hv, hg, hh, r⟩
  · omega
  · injection hv with hA _ _
    refine ⟨g, hA, hg, ?_⟩
    rcases Nat.lt_or_ge g w.heap.size with h' | h'
    · exact h'
    · simp [Array.getElem?_eq_none h'] at hh
end

section
variable {α : Type} {E : ElemT α} {w : World} {base g c : Nat} {e : TypeId}
/-- A literal's block is the call's own. -/
theorem own_lit {α : Type} {E : ElemT α} (w : World) (base : Nat) (e : TypeId) (cs : Array Value) (l : List α) (h : cs.toList = l.flatMap E.enc) (hb : base ≤ w.heap.size) (hm : l.length ≤ maxLen) : OwnL E (w.alloc (.cells cs e)) base e (some ⟨w.heap.size, 0, none⟩) l.length l := by
  have hs : cs.size = l.length * E.size := by rw [← Array.length_toList, h, E.length_flatMap]
  have := World.ownsRow_lit (base := base) (size := E.size) (e := e) w cs l.length hb hm hs
  rw [h] at this
  exact this
theorem OwnL.frozen {l : List α} (h : OwnL E w base e (some ⟨g, 0, none⟩) c l) (j : Nat) : w.frozen? ⟨g, j, none⟩ = false := World.ownsRow.frozenAt h j
theorem OwnL.get_S {l : List (List UInt8)} (h : OwnL encS w base e (some ⟨g, 0, none⟩) c l) {j : Nat} {x : List UInt8} (hx : l[j]? = some x) : w.cell? ⟨g, j, none⟩ = some (S x) := by
  obtain ⟨b, off, hA, _, hc⟩ := h.read.at_S hx
  injection hA with hA
  injection hA with h1 h2
  subst h1 h2
  simpa using hc
theorem OwnL.get_B {l : List UInt8} (h : OwnL encB w base e (some ⟨g, 0, none⟩) c l) {j : Nat} {x : UInt8} (hx : l[j]? = some x) : w.cell? ⟨g, j, none⟩ = some (.int .u8 x.toNat) := by
  obtain ⟨b, off, hA, _, hc⟩ := h.read.at_B hx
  injection hA with hA
  injection hA with h1 h2
  subst h1 h2
  simpa using hc
theorem flat_S (l : List (List UInt8)) : l.flatMap encS.enc = l.map fun s => S s := by
  induction l with
  | nil => rfl
  | cons a l ih => rw [List.flatMap_cons, ih]; rfl
theorem flat_B (l : List UInt8) : l.flatMap encB.enc = l.map fun b => .int .u8 b.toNat := by
  induction l with
  | nil => rfl
  | cons a l ih => rw [List.flatMap_cons, ih]; rfl
theorem OwnL.set_S {l : List (List UInt8)} (h : OwnL encS w base e (some ⟨g, 0, none⟩) c l) (j : Nat) (x : List UInt8) :
    OwnL encS (w.setCell ⟨g, j, none⟩ (S x)) base e (some ⟨g, 0, none⟩) c (l.set j x) := by
  have h1 := (World.ownsRow.stored h j (S x)).1
  unfold OwnL
  rw [flat_S] at h1 ⊢
  rw [List.map_set, List.length_set]
  exact h1
theorem OwnL.set_B {l : List UInt8} (h : OwnL encB w base e (some ⟨g, 0, none⟩) c l) (j : Nat) (x : UInt8) :
    OwnL encB (w.setCell ⟨g, j, none⟩ (.int .u8 x.toNat)) base e (some ⟨g, 0, none⟩) c (l.set j x) := by
  have h1 := (World.ownsRow.stored h j (.int .u8 x.toNat)).1
  unfold OwnL
  rw [flat_B] at h1 ⊢
  rw [List.map_set, List.length_set]
  exact h1
end

/-- A slice type and its element type, as the program's table has them. -/
structure SlT (P : Program) (t e : TypeId) (size bytes : Nat) : Prop where
  ht : P.underlying t = some (.slice e)
  info : ∃ i z, P.info? e = some i ∧ i.zero = some z ∧ i.size = size ∧ i.bytes = bytes ∧ z.cells.size = size

theorem SlT.mk' {P : Program} {t e : TypeId} {z : Value} {size bytes : Nat} (ht : P.underlying t = some (.slice e)) (hi : (P.info? e).map (fun i => (i.zero, i.size, i.bytes)) = some (some z, size, bytes)) (hz : z.cells.size = size) : SlT P t e size bytes := by
  obtain ⟨i, h1, h2, h3, h4⟩ := info_parts hi
  exact ⟨ht, i, z, h1, h2, h3, h4, hz⟩

section
variable {P : Program} {w : World} {ops : Array Oper} {rest : List Oper} {o : Oper} {a : Act} {Q : Exit → Act → World → Prop} {t e : TypeId} {size bytes : Nat} {α : Type} {base c : Nat} {A : Option Addr} {l : List α}

/-- 'append(s, x1, .. , xm)': the elements lie in the block that was laid for them. -/
theorem wpList_app (E : ElemT α) (T : SlT P t e E.size bytes) (news : List α) (hgd : o.guard = none) (s x : Operand)
    (ho : o.op = .call { callee := .builtin .append, args := #[s, x], argTypes := #[t, t] })
    (hs : a.eval s = .slice A l.length c) (hown : OwnL E w base e A c l) (cs : Array Value) (hcs : cs.toList = news.flatMap E.enc) (m : Nat) (hm : news.length = m + 1)
    (hx : a.eval x = .slice (some ⟨w.heap.size, 0, none⟩) (m + 1) (m + 1)) (hb : (l.length + (m + 1)) * bytes ≤ 140737488355328) (h63 : l.length + (m + 1) ≤ maxLen) (hbase : base ≤ w.heap.size)
    (k : ∀ g c' w', OwnL E w' base e (some ⟨g, 0, none⟩) c' (l ++ news) → w.grownBy w' (Value.slice A l.length c).ownBlock → Below base w w' → base ≤ g → wpList P ops Q rest (a.put o.dst (.slice (some ⟨g, 0, none⟩) (l.length + (m + 1)) c')) w') :
    wpList P ops Q (o :: rest) a (w.alloc (.cells cs e)) := by
  obtain ⟨i, z, hi, hz, hz1, hz2, hz3⟩ := T.info
  have hlen : news.length = m + 1 := hm
  refine wpList_append_own _ hgd s x t ho base e i z E.size bytes T.ht hi hz hz1 hz2 hz3 E.pos (.slice A l.length c) l.length (l.flatMap E.enc) hs (World.ownsRow.alloc hown _) ⟨w.heap.size, 0, none⟩ (m + 1) (m + 1) (news.flatMap E.enc) hx
    (by rw [E.length_flatMap, hlen]) ?_ (E.one_flatMap news) h63 hb (by simp; omega) ?_
  · intro j u hj
    exact World.news_of_block (heap_alloc_new w (.cells cs e)) j u (by rw [hcs]; exact hj)
  · intro v' w' h1 h2 _
    obtain ⟨g, cap, rfl⟩ : ∃ g cap, v' = .slice (some ⟨g, 0, none⟩) (l.length + (m + 1)) cap := by
      rcases h1.2 with ⟨_, h0⟩ | ⟨g, cap, _, rfl, _⟩
      · omega
      · exact ⟨g, cap, rfl⟩
    have hl : (l ++ news).length = l.length + (m + 1) := by simp [hlen]
    have hg2 : w.grownBy w' (Value.slice A l.length c).ownBlock :=
      ⟨h2.os, h2.tape, h2.output, Nat.le_trans (by simp) h2.size, fun i hi hne => (h2.block i (by simp; omega) hne).trans (Below.heap_alloc w _ i hi)⟩
    refine k g cap w' ?_ hg2 ⟨h2.os, h2.tape, h2.output, Nat.le_trans (by simp) h2.size, fun i hi => hg2.block i (by omega) ?_⟩ ?_
    · unfold OwnL
      rw [hl, List.flatMap_append]
      exact h1
    · intro hne
      cases A with
      | none => simp [Value.ownBlock] at hne
      | some g' =>
        have := (OwnL.lt hown g' rfl).1
        simp [Value.ownBlock] at hne
        omega
    · exact (World.ownsRow.lt h1 g rfl).1
end

/-- '([]T, Errno)': nothing and a number, or a list in new memory and 0. -/
def SlPost {α : Type} (E : ElemT α) (t : TypeId) (w : World) (r : Except Int (List α)) (e : Ending) (w' : World) : Prop := match r with
  | .error n => e = .returned (.tuple #[.slice none 0 0, .int .i64 n]) ∧ Below w.heap.size w w'
  | .ok out => ∃ A c, e = .returned (.tuple #[.slice A out.length c, .int .i64 0]) ∧ OwnL E w' w.heap.size t A c out ∧ Below w.heap.size w w'
theorem SlPost.err {α : Type} {E : ElemT α} {t : TypeId} {w w' : World} {r : Except Int (List α)} {e : Ending} {n : Int} (h : SlPost E t w r e w') (hr : r = .error n) : e = .returned (.tuple #[.slice none 0 0, .int .i64 n]) ∧ Below w.heap.size w w' := by subst hr; exact h
theorem SlPost.ok_ {α : Type} {E : ElemT α} {t : TypeId} {w w' : World} {r : Except Int (List α)} {e : Ending} {out : List α} (h : SlPost E t w r e w') (hr : r = .ok out) : ∃ A c, e = .returned (.tuple #[.slice A out.length c, .int .i64 0]) ∧ OwnL E w' w.heap.size t A c out ∧ Below w.heap.size w w' := by subst hr; exact h

/-- '(string, Errno)': nothing and a number, or a text and 0. -/
def StPost (w : World) (r : Except Int (List UInt8)) (e : Ending) (w' : World) : Prop := (match r with
  | .error n => e = .returned (.tuple #[S [], .int .i64 n])
  | .ok out => e = .returned (.tuple #[S out, .int .i64 0])) ∧ Below w.heap.size w w'

/-- 'string(b)' of a slice that reads as l. -/
theorem run_bytes_str {P : Program} {w : World} {B : Nat} {A : Option Addr} {l : List UInt8} (src dst : TypeId) {e : TypeId} (hs : P.underlying src = some (.slice e)) (he : P.underlying e = some (.int .u8)) (hd : P.underlying dst = some .string) (h : ReadL encB w B A l) (c : Nat) :
    (convert src dst (.slice A l.length c)).run P w = .ok (S l) w := by
  cases l with
  | nil =>
    cases A with
    | none => exact run_convert_bytes_nil w src e hs he 0 c dst hd
    | some ad =>
      obtain ⟨b, off, sp⟩ := ad
      rw [run_convert_bytes_string w src dst e _ _ c hs he hd, run_bytesToString w ⟨b, off, sp⟩ _ c [] (by simpa using run_loadCells_list (P := P) w ⟨b, off, sp⟩ [] (by simp))]
      rfl
  | cons x l =>
    obtain ⟨b, off, rfl, _, hc⟩ := h (by simp)
    have := run_convert_bytes_arg (P := P) w src e hs he b off (x :: l).length c ((x :: l).map fun b => (b.toNat : Int)) (by simp) (fun i hi => by
      have h1 : (x :: l)[i]? = some (x :: l)[i] := List.getElem?_eq_getElem hi
      have h2 := hc i _ h1 0 (.int .u8 ((x :: l)[i]).toNat) rfl
      have h3 : off + i * encB.size + 0 = off + i := by show off + i * 1 + 0 = _; omega
      rw [h3] at h2
      rw [h2, List.getD_eq_getElem?_getD, List.getElem?_map, h1]
      rfl) dst hd
    rw [this]
    congr 2
    unfold strOfNums
    congr 2
    rw [List.map_map]
    conv => rhs; rw [← List.map_id (x :: l)]
    apply List.map_congr_left
    intro y _
    simp

/-- 'string([]byte{..})': a literal's bytes, whatever numbers they are written as. -/
theorem run_lit_str {P : Program} (src dst : TypeId) {e : TypeId} (hs : P.underlying src = some (.slice e)) (he : P.underlying e = some (.int .u8)) (hd : P.underlying dst = some .string) (W : World) (ns : List Int) (cs : Array Value) (hcs : cs.toList = ns.map (Value.int .u8)) (n c : Nat) (hn : n = ns.length) (g : Nat) (hg : g = W.heap.size) :
    (convert src dst (.slice (some ⟨g, 0, none⟩) n c)).run P (W.alloc (.cells cs e)) = .ok (S (ns.map fun n => UInt8.ofNat n.toNat)) (W.alloc (.cells cs e)) := by
  subst hn hg
  have := run_convert_bytes_arg (P := P) (W.alloc (.cells cs e)) src e hs he W.heap.size 0 ns.length c ns rfl (fun i hi => by
    rw [cell_of_row _ _ _ cs e (0, 0) (heap_alloc_new W _), Nat.zero_add, ← Array.getElem?_toList, hcs, List.getElem?_map, List.getD_eq_getElem?_getD, List.getElem?_eq_getElem hi]
    rfl) dst hd
  rw [this]
  rfl

/-- 'append(b, s...)', s a text. -/
theorem wpList_app_str {P : Program} {w : World} {ops : Array Oper} {rest : List Oper} {o : Oper} {a : Act} {Q : Exit → Act → World → Prop} {t tS e : TypeId} {base c : Nat} {A : Option Addr} {l : List UInt8}
    (ht : P.underlying t = some (.slice e)) (hS : P.underlying tS = some .string) (hinfo : (P.info? e).map (fun i => (i.zero, i.size, i.bytes)) = some (some (.int .u8 0), 1, 1)) (hgd : o.guard = none) (s x : Operand)
    (ho : o.op = .call { callee := .builtin .append, args := #[s, x], argTypes := #[t, tS] })
    (hs : a.eval s = .slice A l.length c) (hown : OwnL encB w base e A c l) (m : List UInt8) (hx : a.eval x = S m) (hb : l.length + m.length ≤ 140737488355328) (hbase : base ≤ w.heap.size)
    (k : ∀ A' c' w', OwnL encB w' base e A' c' (l ++ m) → w.grownBy w' (Value.slice A l.length c).ownBlock → Below base w w' → wpList P ops Q rest (a.put o.dst (.slice A' (l.length + m.length) c')) w') :
    wpList P ops Q (o :: rest) a w := by
  obtain ⟨i, hi, hz, hz1, hz2⟩ := info_parts hinfo
  have e1 : (⟨m.toArray⟩ : ByteArray).size = m.length := ba_size m
  refine Lib.wpList_append_own_string w hgd s x t tS ho base e i ht hS hi hz hz1 hz2 _ l.length _ hs hown ⟨m.toArray⟩ hx (by rw [e1]; simp only [maxLen]; omega) (by rw [e1]; exact hb) hbase ?_
  intro v' w' h1 h2 _
  rw [e1] at h1
  obtain ⟨A', cap, rfl⟩ : ∃ A' cap, v' = .slice A' (l.length + m.length) cap := by
    rcases h1.2 with ⟨h, h0⟩ | ⟨g, cap, _, rfl, _⟩
    · exact ⟨none, 0, by rw [h, h0]⟩
    · exact ⟨_, cap, rfl⟩
  have hl : (l ++ m).length = l.length + m.length := by simp
  refine k A' cap w' ?_ h2 ⟨h2.os, h2.tape, h2.output, h2.size, fun j hj => h2.block j (by omega) ?_⟩
  · unfold OwnL
    rw [hl, flat_B, List.map_append, ← flat_B]
    exact h1
  · intro hne
    cases A with
    | none => simp [Value.ownBlock] at hne
    | some g' =>
      have := (OwnL.lt hown g' rfl).1
      simp [Value.ownBlock] at hne
      omega
end Go.Larder
end

/- Frame -/
section
namespace Go.Larder
open Go.RowKit Go.ChangeShapes Go.WideShapes
set_option linter.unusedVariables false
set_option linter.unusedSimpArgs false

theorem u8_of {n : Int} (h : (Lit.int .u8 n).wf = true) : ∃ c : UInt8, n = c.toNat := by
  have hb := bounds_u8 h
  refine ⟨UInt8.ofNat n.toNat, ?_⟩
  simp
  omega

/-- The wrap for a condition on the data, with the world's shape handed on. -/
theorem cond_shaped {H : Type} {enc : TypeId × Value → H} {a : Assume} {C : Checked} {os : Os} {f : FuncId} {fn : Func} {s : OpenSpec} {k : (H : Type) → List (DataW H) → Bool} (hk : s.cond = some k) {F : Stop.Interp} {conds : List PathCond} {apart fresh handsOn again : Bool}
    (own : ownKnob C.prog.godebug = none) (started : os.Started) (noInit : C.prog.inits.idxOf? f = none) (hfn : C.prog.funcs[f]? = some fn)
    (witness : ∃ (w : World) (tape : Tape) (i : Input), w.os = os ∧ (w.forCall tape i).Shaped C.prog ∧ i.vars = [] ∧ Input.okWide C.prog (w.forCall tape i) .any w.heap.size f i ∧
      s.pre6 enc C.prog fn conds apart (w.forCall tape i).memory i.args ∧ a.holds C.prog (lone (Frame.enter C.prog f i.args .normal) [] (w.forCall tape i)))
    (step : ∀ (W : World) (base : Nat) (args : Array Value) (ds gs : List (DataW H)) (before : List MemPlace),
      (∀ (j : Nat) t v, fn.params[j]? = some t → args[j]? = some v → Value.okWide C.prog W .any base t v) →
      DataW.Whole enc C.prog fn.params.toList s.vars apart W args.toList ds gs before →
      conds.all (PathCond.test C.prog ⟨fn.params.toList, ds, s.bare.plain.varTypes C.prog, gs⟩) = true → k H (ds ++ gs) = true →
      W.ShapedOpen C.prog →
      a.holds C.prog (lone (Frame.enter C.prog f args .normal) [] W) →
      Calls C.prog f args W fun e W' => ∃ v, e = .returned v ∧ (s.at F).post enc C.prog fn apart fresh handsOn again W args v W') :
    ReturnsInHanded a C os f .any (s.pre6 enc C.prog fn conds apart) ((s.at F).post enc C.prog fn apart fresh handsOn again) := by
  apply returnsInHanded_of_calls own started noInit witness
  intro w tape i _ hsh _ hok hpre hh
  obtain ⟨_, _, _, fn', hfn', _, _, _, _, hval⟩ := hok
  obtain rfl : fn' = fn := Option.some.inj (hfn'.symm.trans hfn)
  obtain ⟨ds, gs, before, hw, hc, hkk⟩ := (OpenSpec.pre_some hk conds apart _ _).1 hpre.1
  apply (step (w.forCall tape i) w.heap.size i.args ds gs before hval (DataW.Whole.of_heap (w' := w.forCall tape i) (by rfl) hw) hc hkk hsh hh).mono
  rintro e W' ⟨v, rfl, hp⟩
  exact ChangeSpec.post_blind hp
end Go.Larder
end

/- DoorSep -/
section
namespace Go.Larder
open Go.RowKit
set_option linter.unusedVariables false
def sepB : List Nat → Nat → Nat → List MemPlace → Bool
  | _, _, _, [] => true
  | seen, cur, last, .cell b off :: r => if b == cur then Nat.blt last off && sepB seen cur off r else !(seen.contains b) && sepB (cur :: seen) b off r
  | _, _, _, .map _ :: _ => false
theorem sepB_nodup : ∀ (ps : List MemPlace) (seen : List Nat) (cur last : Nat), sepB seen cur last ps = true → ps.Nodup ∧ ∀ p ∈ ps, ∃ b off, p = .cell b off ∧ ((b = cur ∧ last < off) ∨ (b ≠ cur ∧ b ∉ seen))
  | [], _, _, _, _ => ⟨List.nodup_nil, by simp⟩
  | .map _ :: _, _, _, _, h => by simp [sepB] at h
  | .cell b off :: r, seen, cur, last, h => by
    unfold sepB at h
    split at h
    · rename_i hb
      have hbc : b = cur := by simpa using hb
      subst hbc
      rw [Bool.and_eq_true] at h
      obtain ⟨h1, h2⟩ := h
      have hlt : last < off := Nat.le_of_ble_eq_true h1
      obtain ⟨hn, hall⟩ := sepB_nodup r seen b off h2
      refine ⟨List.nodup_cons.2 ⟨fun hm => ?_, hn⟩, fun p hp => ?_⟩
      · obtain ⟨b', o', e, h3⟩ := hall _ hm
        injection e with e1 e2
        subst e1 e2
        rcases h3 with ⟨_, h3⟩ | ⟨h3, _⟩
        · omega
        · exact h3 rfl
      · rcases List.mem_cons.1 hp with rfl | hp
        · exact ⟨b, off, rfl, .inl ⟨rfl, hlt⟩⟩
        · obtain ⟨b', o', e, h3⟩ := hall _ hp
          refine ⟨b', o', e, ?_⟩
          rcases h3 with ⟨h3, h4⟩ | h3
          · exact .inl ⟨h3, by omega⟩
          · exact .inr h3
    · rename_i hb
      have hbc : b ≠ cur := by simpa using hb
      rw [Bool.and_eq_true] at h
      obtain ⟨h1, h2⟩ := h
      have hns : b ∉ seen := by simpa using h1
      obtain ⟨hn, hall⟩ := sepB_nodup r (cur :: seen) b off h2
      refine ⟨List.nodup_cons.2 ⟨fun hm => ?_, hn⟩, fun p hp => ?_⟩
      · obtain ⟨b', o', e, h3⟩ := hall _ hm
        injection e with e1 e2
        subst e1 e2
        rcases h3 with ⟨_, h3⟩ | ⟨h3, _⟩
        · omega
        · exact h3 rfl
      · rcases List.mem_cons.1 hp with rfl | hp
        · exact ⟨b, off, rfl, .inr ⟨hbc, hns⟩⟩
        · obtain ⟨b', o', e, h3⟩ := hall _ hp
          refine ⟨b', o', e, .inr ?_⟩
          rcases h3 with ⟨h3, _⟩ | ⟨h3, h4⟩
          · subst h3; exact ⟨hbc, hns⟩
          · exact ⟨fun h5 => h4 (by simp [h5]), fun h5 => h4 (List.mem_cons_of_mem _ h5)⟩
theorem laidMet_sep {P : Program} {w : World} {l : List (String × DataW Unit)} (fuel : Nat) (h : (DataW.laidRun P w fuel (l.map (·.1))).map (·.1) = some l)
    (hr : (DataW.laidRun P w fuel (l.map (·.1))).map (fun x => sepB [] 1000000000 0 x.2 && laidRowsB P w x.2) = some true) : laidMet P l w := by
  cases hx : DataW.laidRun P w fuel (l.map (·.1)) with
  | none => simp [hx] at h
  | some x =>
    obtain ⟨l', ps⟩ := x
    simp only [hx, Option.map_some, Option.some.injEq] at h hr
    subst h
    rw [Bool.and_eq_true] at hr
    exact laidMet_of_run fuel hx (decide_eq_true (sepB_nodup _ _ _ _ hr.1).1) hr.2
end Go.Larder
end

/- SpecLog -/
section
namespace Go.Larder
set_option linter.unusedVariables false
set_option linter.unusedSimpArgs false

def cStep (n : Nat) : Nat := (n / 2) ^^^ (n % 2 * 2197175160)
def cIter : Nat → Nat → Nat
  | 0, n => n
  | k + 1, n => cIter k (cStep n)
def cByte (n : Nat) (b : UInt8) : Nat := cIter 8 (n ^^^ b.toNat)
def cFold : List UInt8 → Nat → Nat
  | [], n => n
  | b :: r, n => cFold r (cByte n b)
def crc (l : List UInt8) : Nat := 4294967295 - cFold l 4294967295

theorem cStep_lt {n : Nat} (h : n < 4294967296) : cStep n < 4294967296 := by
  unfold cStep
  have h1 : n % 2 = 0 ∨ n % 2 = 1 := by omega
  exact Nat.xor_lt_two_pow (n := 32) (by omega) (by omega)
theorem xor_u8_lt {n : Nat} (h : n < 4294967296) (b : UInt8) : n ^^^ b.toNat < 4294967296 :=
  Nat.xor_lt_two_pow (n := 32) h (by have := b.toNat_lt; omega)

/-- One bit of the reference's count. -/
def rStep (n : Nat) (b : Nat) (k : Nat) : Nat := if (n % 2 != b / 2 ^ k % 2) then (n / 2) ^^^ 2197175160 else n / 2
def rIter (b : Nat) : Nat → Nat → Nat → Nat      -- how many are left, which is next, the sum
  | 0, _, n => n
  | m + 1, k, n => rIter b m (k + 1) (rStep n b k)
theorem rStep_lt {n b k : Nat} (h : n < 4294967296) : rStep n b k < 4294967296 := by
  unfold rStep
  split
  · exact Nat.xor_lt_two_pow (n := 32) (by omega) (by omega)
  · omega
theorem cStep_rStep (n b k : Nat) : cStep (n ^^^ b / 2 ^ k) = rStep n b k ^^^ b / 2 ^ (k + 1) := by
  unfold cStep rStep
  have e1 : b / 2 ^ (k + 1) = b / 2 ^ k / 2 := by rw [Nat.pow_succ, Nat.div_div_eq_div_mul]
  rw [e1, Nat.xor_div_two]
  generalize b / 2 ^ k = c
  have h0 : (n ^^^ c) % 2 = n % 2 ^^^ c % 2 := Nat.xor_mod_two_pow (n := 1)
  rw [h0]
  have h1 : n % 2 = 0 ∨ n % 2 = 1 := by omega
  have h2 : c % 2 = 0 ∨ c % 2 = 1 := by omega
  rcases h1 with h1 | h1 <;> rcases h2 with h2 | h2 <;> simp [h1, h2, Nat.xor_assoc, Nat.xor_comm] <;> rw [← Nat.xor_assoc, Nat.xor_comm (n / 2), Nat.xor_assoc]
theorem cIter_rIter (b : Nat) : ∀ m k n, cIter m (n ^^^ b / 2 ^ k) = rIter b m k n ^^^ b / 2 ^ (k + m)
  | 0, k, n => rfl
  | m + 1, k, n => by
    rw [cIter, cStep_rStep, cIter_rIter b m (k + 1), rIter, show k + 1 + m = k + (m + 1) by omega]
theorem cByte_rIter (n : Nat) (b : UInt8) : cByte n b = rIter b.toNat 8 0 n := by
  have h := cIter_rIter b.toNat 8 0 n
  have h2 : b.toNat / 2 ^ (0 + 8) = 0 := by have := b.toNat_lt; omega
  rw [h2] at h
  simpa [cByte] using h
theorem cIter_lt : ∀ m n, n < 4294967296 → cIter m n < 4294967296
  | 0, _, h => h
  | m + 1, n, h => cIter_lt m _ (cStep_lt h)
theorem cByte_lt {n : Nat} (h : n < 4294967296) (b : UInt8) : cByte n b < 4294967296 := cIter_lt 8 _ (xor_u8_lt h b)
theorem cFold_lt : ∀ (l : List UInt8) (n : Nat), n < 4294967296 → cFold l n < 4294967296
  | [], _, h => h
  | b :: r, n, h => cFold_lt r _ (cByte_lt h b)
theorem crc_lt (l : List UInt8) : crc l < 4294967296 := by unfold crc; omega

/-- How the walk spells one step. -/
theorem cStep_walk {n : Nat} (h : n < 4294967296) : bits .xor .u32 ((n : Int) / 2) (bits .and .u32 (n : Int) 1 * 2197175160 % 4294967296) = ((cStep n : Nat) : Int) := by
  have e1 : bits .and .u32 (n : Int) 1 = ((n % 2 : Nat) : Int) := by
    have := u32_and_nat n 1 h (by omega)
    rw [Nat.and_one_is_mod] at this
    exact this
  have h1 : n % 2 = 0 ∨ n % 2 = 1 := by omega
  have e2 : ((n % 2 : Nat) : Int) * 2197175160 % 4294967296 = ((n % 2 * 2197175160 : Nat) : Int) := by omega
  rw [e1, e2, show (n : Int) / 2 = ((n / 2 : Nat) : Int) by omega, u32_xor_nat _ _ (by omega) (by omega)]
  rfl
theorem not_walk {n : Nat} (h : n < 4294967296) : bits .xor .u32 IntKind.u32.max (n : Int) = ((4294967295 - n : Nat) : Int) := by
  have e : IntKind.u32.max = ((4294967295 : Nat) : Int) := rfl
  rw [e, u32_xor_nat 4294967295 n (by omega) h]
  congr 1
  have h1 := BitVec.toNat_not (x := BitVec.ofNat 32 n)
  rw [← BitVec.allOnes_xor, BitVec.toNat_xor, BitVec.toNat_allOnes, BitVec.toNat_ofNat, Nat.mod_eq_of_lt (by omega)] at h1
  exact h1
theorem rbit_walk (m j : Nat) (x : UInt8) : ((m : Int) % 2 == IntKind.u64.wrap (((x.toNat : Int) / 2 ^ j).tmod 2)) = (m % 2 == x.toNat / 2 ^ j % 2) := by
  have e0 : ((x.toNat : Int) / 2 ^ j) = ((x.toNat / 2 ^ j : Nat) : Int) := by simp
  rw [e0]
  have hq : x.toNat / 2 ^ j < 256 := Nat.lt_of_le_of_lt (Nat.div_le_self _ _) x.toNat_lt
  generalize x.toNat / 2 ^ j = q at hq
  have e : IntKind.u64.wrap ((q : Int).tmod 2) = ((q % 2 : Nat) : Int) := by
    rw [Int.tmod_eq_emod_of_nonneg (by omega), IntWalk.u64_in _ ⟨by omega, by omega⟩]
    omega
  rw [e, Bool.eq_iff_iff]
  simp
  omega
theorem rxor_walk {m : Nat} (h : m < 4294967296) : bits .xor .u64 ((m : Int) / 2) 2197175160 = (((m / 2) ^^^ 2197175160 : Nat) : Int) := by
  rw [show (m : Int) / 2 = ((m / 2 : Nat) : Int) by omega]
  exact u64_xor_nat _ 2197175160 (by omega) (by omega)
theorem xor_walk {n : Nat} (h : n < 4294967296) (b : UInt8) : bits .xor .u32 (n : Int) (b.toNat : Int) = ((n ^^^ b.toNat : Nat) : Int) :=
  u32_xor_nat n b.toNat h (by have := b.toNat_lt; omega)



/-! Frames. -/
def be4 (n : Nat) : List UInt8 := [UInt8.ofNat (n / 16777216), UInt8.ofNat (n / 65536 % 256), UInt8.ofNat (n / 256 % 256), UInt8.ofNat (n % 256)]
def le4 (c : Nat) : List UInt8 := [UInt8.ofNat (c % 256), UInt8.ofNat (c / 256 % 256), UInt8.ofNat (c / 65536 % 256), UInt8.ofNat (c / 16777216)]
def hd4 (m : Nat) : List UInt8 := [UInt8.ofNat (m / 256), UInt8.ofNat (m % 256), UInt8.ofNat (255 - m / 256), UInt8.ofNat (255 - m % 256)]
def frameL (n : Nat) (s : List UInt8) : List UInt8 := hd4 s.length ++ s ++ le4 (crc (be4 n ++ s))
theorem frameL_len (n : Nat) (s : List UInt8) : (frameL n s).length = s.length + 8 := by (simp [frameL, hd4, le4]) <;> omega
def bigL : Nat → Nat → List UInt8
  | _, 0 => []
  | n, k + 1 => bigL (n / 256) k ++ [UInt8.ofNat (n % 256)]
theorem bigL_len : ∀ (k n : Nat), (bigL n k).length = k
  | 0, _ => rfl
  | k + 1, n => by simp [bigL, bigL_len k]
theorem bigL_4 (n : Nat) (h : n < 4294967296) : bigL n 4 = be4 n := by
  simp only [bigL, be4, Nat.div_div_eq_div_mul, List.nil_append, List.cons_append, Nat.reduceMul]
  rw [Nat.mod_eq_of_lt (show n / 16777216 < 256 by omega)]
theorem bigL_2 (m : Nat) (h : m ≤ 1000) : bigL m 2 ++ bigL (65535 - m) 2 = hd4 m := by
  simp only [bigL, hd4, List.nil_append, List.cons_append]
  rw [Nat.mod_eq_of_lt (show m / 256 < 256 by omega), show (65535 - m) / 256 % 256 = 255 - m / 256 by omega, show (65535 - m) % 256 = 255 - m % 256 by omega]
theorem not_walk8 {n : Nat} (h : n < 256) : bits .xor .u8 IntKind.u8.max (n : Int) = ((255 - n : Nat) : Int) := by
  have e : IntKind.u8.max = ((255 : Nat) : Int) := rfl
  rw [e, u8_xor_nat 255 n (by omega) h]
  congr 1
  have h1 := BitVec.toNat_not (x := BitVec.ofNat 8 n)
  rw [← BitVec.allOnes_xor, BitVec.toNat_xor, BitVec.toNat_allOnes, BitVec.toNat_ofNat, Nat.mod_eq_of_lt (by omega)] at h1
  exact h1
theorem ofNat_toNat {n : Nat} (h : n < 256) : ((UInt8.ofNat n).toNat : Int) = n := by simp; omega

/-! Recover. -/
def recLen (r : List UInt8) : Nat := (r.getD 0 0).toNat * 256 + (r.getD 1 0).toNat
def recStep (k : Nat) (r : List UInt8) : Option Nat :=
  if r.length < 8 then none else if r.length < recLen r + 8 then none else if 1000 < recLen r ∨ 2147483648 < k then none
  else if frameL k ((r.drop 4).take (recLen r)) == r.take (recLen r + 8) then some (recLen r) else none
def recGo : Nat → List UInt8 → List (List UInt8) → Nat → List (List UInt8) × Nat
  | 0, _, acc, p => (acc, p)
  | f + 1, r, acc, p => match recStep acc.length r with
    | none => (acc, p)
    | some n => recGo f (r.drop (n + 8)) (acc ++ [(r.drop 4).take n]) (p + (n + 8))
def recover (l : List UInt8) : List (List UInt8) × Nat := recGo (l.length + 1) l [] 0
theorem recLen_lt (r : List UInt8) : recLen r < 65536 := by
  have := (r.getD 0 0).toNat_lt
  have := (r.getD 1 0).toNat_lt
  unfold recLen; omega
theorem recGo_none {f k : Nat} {r : List UInt8} {acc : List (List UInt8)} {p : Nat} (hf : 0 < f) (hk : k = acc.length) (h : recStep k r = none) : recGo f r acc p = (acc, p) := by
  subst hk
  cases f with
  | zero => omega
  | succ f => rw [recGo, h]
theorem recGo_some {f k n : Nat} {r : List UInt8} {acc : List (List UInt8)} {p : Nat} (hf : 0 < f) (hk : k = acc.length) (h : recStep k r = some n) : recGo f r acc p = recGo (f - 1) (r.drop (n + 8)) (acc ++ [(r.drop 4).take n]) (p + (n + 8)) := by
  subst hk
  cases f with
  | zero => omega
  | succ f => rw [recGo, h]; rfl
theorem or_walk (a b : UInt8) : bits .or .i64 ((a.toNat : Int) * 256) (b.toNat : Int) = ((a.toNat * 256 + b.toNat : Nat) : Int) := by
  have ha := a.toNat_lt
  have hb := b.toNat_lt
  have h1 : (BitVec.ofInt 64 ((a.toNat : Int) * 256)).toNat = a.toNat * 256 := by
    rw [show ((a.toNat : Int) * 256) = ((a.toNat * 256 : Nat) : Int) by omega, BitVec.ofInt_natCast, BitVec.toNat_ofNat]
    exact Nat.mod_eq_of_lt (by omega)
  have h2 : (BitVec.ofInt 64 (b.toNat : Int)).toNat = b.toNat := by
    rw [BitVec.ofInt_natCast, BitVec.toNat_ofNat]
    exact Nat.mod_eq_of_lt (by omega)
  have h3 : a.toNat * 256 ||| b.toNat = a.toNat * 256 + b.toNat := by
    have := Nat.two_pow_add_eq_or_of_lt (i := 8) hb a.toNat
    rw [show a.toNat * 256 = 2 ^ 8 * a.toNat by omega]
    exact this.symm
  show IntKind.i64.wrap ((BitVec.ofInt 64 ((a.toNat : Int) * 256) ||| BitVec.ofInt 64 (b.toNat : Int)).toNat : Int) = _
  rw [BitVec.toNat_or, h1, h2, h3, IntWalk.i64_in _ ⟨by omega, by omega⟩]

theorem recGo_len : ∀ (f : Nat) (r : List UInt8) (acc : List (List UInt8)) (p : Nat), acc.length ≤ 2147483649 → (recGo f r acc p).1.length ≤ 2147483649
  | 0, _, _, _, h => h
  | f + 1, r, acc, p, h => by
    rw [recGo]
    split
    · exact h
    · rename_i n hs
      apply recGo_len
      have : acc.length ≤ 2147483648 := by
        unfold recStep at hs
        split at hs
        · cases hs
        · split at hs
          · cases hs
          · split at hs
            · cases hs
            · omega
      simp; omega
theorem recover_len (l : List UInt8) : (recover l).1.length ≤ 2147483649 := recGo_len _ _ _ _ (by simp)

/-! ### Frame at any number, Write. -/
def frameE (n : Int) (s : List UInt8) : Except Int (List UInt8) := if n < 0 ∨ 2147483648 < n then .error 1 else if 1000 < s.length then .error 2 else .ok (frameL n.toNat s)
def writeGo : Nat → List (List UInt8) → List UInt8 → Except Int (List UInt8)
  | _, [], acc => .ok acc
  | k, s :: r, acc => match frameE (k : Int) s with
    | .error n => .error n
    | .ok f => writeGo (k + 1) r (acc ++ f)
def writeL (l : List (List UInt8)) : Except Int (List UInt8) := writeGo 0 l []
theorem writeGo_big {k : Nat} {s : List UInt8} {r : List (List UInt8)} {acc : List UInt8} (hk : k ≤ 2147483648) (hs : 1000 < s.length) : writeGo k (s :: r) acc = .error 2 := by
  rw [writeGo, frameE, if_neg (by omega), if_pos hs]
theorem writeGo_ok {k : Nat} {s : List UInt8} {r : List (List UInt8)} {acc : List UInt8} (hk : k ≤ 2147483648) (hs : ¬ 1000 < s.length) : writeGo k (s :: r) acc = writeGo (k + 1) r (acc ++ frameL k s) := by
  rw [writeGo, frameE, if_neg (by omega), if_neg hs]
  simp
theorem frameE_len {n : Int} {s f : List UInt8} (h : frameE n s = .ok f) : f.length ≤ 1008 := by
  unfold frameE at h
  split at h
  · cases h
  · split at h
    · cases h
    · cases h; rw [frameL_len]; omega
theorem writeGo_len : ∀ (l : List (List UInt8)) (k : Nat) (acc out : List UInt8), writeGo k l acc = .ok out → out.length ≤ acc.length + 1008 * l.length
  | [], _, _, _, h => by cases h; simp
  | s :: r, k, acc, out, h => by
    rw [writeGo] at h
    split at h
    · cases h
    · rename_i f hf
      have h1 := frameE_len hf
      have h2 := writeGo_len r _ _ _ h
      simp at h2 ⊢; omega
end Go.Larder
end

/- SpecDig -/
section
namespace Go.Larder
set_option linter.unusedSimpArgs false
set_option linter.unusedVariables false
abbrev M32 : Nat := 4294967296
/-- turned to the right -/
def rotr (x k : Nat) : Nat := x / 2 ^ k ||| x * 2 ^ (32 - k) % 4294967296
theorem rotr_lt {x : Nat} (k : Nat) (h : x < 4294967296) : rotr x k < 4294967296 :=
  Nat.or_lt_two_pow (n := 32) (Nat.lt_of_le_of_lt (Nat.div_le_self _ _) h) (Nat.mod_lt _ (by omega))
theorem xor_lt32 {x y : Nat} (h : x < 4294967296) (h2 : y < 4294967296) : x ^^^ y < 4294967296 := Nat.xor_lt_two_pow (n := 32) h h2
structure OkV (n : Nat) (v : List Nat) : Prop where
  len : v.length = n
  lt : ∀ x ∈ v, x < 4294967296
theorem OkV.get {n : Nat} {v : List Nat} (h : OkV n v) (j : Nat) : v.getD j 0 < 4294967296 := by
  rw [List.getD_eq_getElem?_getD]
  cases hx : v[j]? with
  | none => simp
  | some x => exact h.lt x (List.mem_of_getElem? hx)
theorem OkV.set {n : Nat} {v : List Nat} (h : OkV n v) (j : Nat) {x : Nat} (hx : x < 4294967296) : OkV n (v.set j x) :=
  ⟨by rw [List.length_set, h.len], fun y hy => by
    rcases List.mem_or_eq_of_mem_set hy with hy | rfl
    · exact h.lt y hy
    · exact hx⟩
/-- the numbers, step by step -/
def st1 (v : List Nat) (a b x : Nat) : List Nat := v.set a ((v.getD a 0 + (v.getD b 0 + x) % 4294967296) % 4294967296)
def st2 (v : List Nat) (d a r : Nat) : List Nat := v.set d (rotr (v.getD d 0 ^^^ v.getD a 0) r)
def st3 (v : List Nat) (c d : Nat) : List Nat := v.set c ((v.getD c 0 + v.getD d 0) % 4294967296)
theorem OkV.st1 {n : Nat} {v : List Nat} (h : OkV n v) (a b x : Nat) : OkV n (st1 v a b x) := h.set _ (Nat.mod_lt _ (by omega))
theorem OkV.st2 {n : Nat} {v : List Nat} (h : OkV n v) (d a r : Nat) : OkV n (st2 v d a r) := h.set _ (rotr_lt _ (xor_lt32 (h.get _) (h.get _)))
theorem OkV.st3 {n : Nat} {v : List Nat} (h : OkV n v) (c d : Nat) : OkV n (st3 v c d) := h.set _ (Nat.mod_lt _ (by omega))
def half (v : List Nat) (a b c d x r1 r2 : Nat) : List Nat := st2 (st3 (st2 (st1 v a b x) d a r1) c d) b c r2
theorem OkV.half {n : Nat} {v : List Nat} (h : OkV n v) (a b c d x r1 r2 : Nat) : OkV n (half v a b c d x r1 r2) := ((((h.st1 a b x).st2 d a r1).st3 c d).st2 b c r2)
def mixV (v : List Nat) (a b c d x y : Nat) : List Nat := Go.Larder.half (Go.Larder.half v a b c d x 16 12) a b c d y 8 7
theorem OkV.mixV {n : Nat} {v : List Nat} (h : OkV n v) (a b c d x y : Nat) : OkV n (mixV v a b c d x y) := (h.half a b c d x 16 12).half a b c d y 8 7
def ivN : List Nat := [1779033703, 3144134277, 1013904242, 2773480762, 1359893119, 2600822924, 528734635, 1541459225]
theorem ivN_ok : OkV 8 ivN := ⟨rfl, by decide⟩
def sigN : List (List Nat) := [[0, 1, 2, 3, 4, 5, 6, 7, 8, 9, 10, 11, 12, 13, 14, 15], [14, 10, 4, 8, 9, 15, 13, 6, 1, 12, 0, 2, 11, 7, 5, 3], [11, 8, 12, 0, 5, 2, 15, 13, 10, 14, 3, 6, 7, 1, 9, 4], [7, 9, 3, 1, 13, 12, 11, 14, 2, 6, 5, 10, 4, 0, 15, 8], [9, 0, 5, 7, 2, 4, 10, 15, 14, 1, 11, 12, 6, 8, 3, 13], [2, 12, 6, 10, 0, 11, 8, 3, 4, 13, 7, 5, 15, 14, 1, 9], [12, 5, 1, 15, 14, 13, 4, 10, 0, 7, 6, 3, 9, 2, 8, 11], [13, 11, 7, 14, 12, 1, 3, 9, 5, 0, 15, 4, 8, 6, 2, 10], [6, 15, 14, 9, 11, 3, 0, 8, 12, 2, 13, 7, 1, 4, 10, 5], [10, 2, 8, 4, 7, 6, 1, 5, 15, 11, 9, 14, 3, 12, 13, 0]]
theorem sig_ok : ∀ l ∈ sigN, l.length = 16 ∧ ∀ x ∈ l, x < 16 := by decide
def plA (i : Nat) : Nat := i % 4
def plB (i : Nat) : Nat := 4 + (i + i / 4) % 4
def plC (i : Nat) : Nat := 8 + (i + 2 * (i / 4)) % 4
def plD (i : Nat) : Nat := 12 + (i + 3 * (i / 4)) % 4
/-- the words of a block -/
def byteN (b : List UInt8) (j : Nat) : Nat := (b.getD j 0).toNat
theorem byteN_lt (b : List UInt8) (j : Nat) : byteN b j < 256 := (b.getD j 0).toNat_lt
def wd (b : List UInt8) (i : Nat) : Nat := byteN b (4 * i) + byteN b (4 * i + 1) * 256 + byteN b (4 * i + 2) * 65536 + byteN b (4 * i + 3) * 16777216
theorem wd_lt (b : List UInt8) (i : Nat) : wd b i < 4294967296 := by
  have h0 := byteN_lt b (4 * i); have h1 := byteN_lt b (4 * i + 1); have h2 := byteN_lt b (4 * i + 2); have h3 := byteN_lt b (4 * i + 3)
  unfold wd; omega
def part (b : List UInt8) (i : Nat) : Nat → Nat
  | 0 => 0
  | k + 1 => part b i k ||| (byteN b (4 * i + k) * 2 ^ (8 * k)) % 4294967296
theorem or_step {x y k : Nat} (h : x < 2 ^ k) : x ||| y * 2 ^ k = x + y * 2 ^ k := by
  have := Nat.shiftLeft_add_eq_or_of_lt h y
  rw [Nat.shiftLeft_eq] at this
  rw [Nat.or_comm, ← this, Nat.add_comm]
theorem or_8 {x y : Nat} (h : x < 256) : x ||| y * 256 = x + y * 256 := or_step (k := 8) h
theorem or_16 {x y : Nat} (h : x < 65536) : x ||| y * 65536 = x + y * 65536 := or_step (k := 16) h
theorem or_24 {x y : Nat} (h : x < 16777216) : x ||| y * 16777216 = x + y * 16777216 := or_step (k := 24) h
theorem part_1 (b : List UInt8) (i : Nat) : part b i 1 = byteN b (4 * i) := by
  have h0 := byteN_lt b (4 * i)
  show (0 ||| (byteN b (4 * i + 0) * 2 ^ 0) % 4294967296) = _
  rw [Nat.zero_or, Nat.pow_zero, Nat.mul_one, Nat.add_zero, Nat.mod_eq_of_lt (by omega)]
theorem part_2 (b : List UInt8) (i : Nat) : part b i 2 = byteN b (4 * i) + byteN b (4 * i + 1) * 256 := by
  have h0 := byteN_lt b (4 * i); have h1 := byteN_lt b (4 * i + 1)
  show (part b i 1 ||| (byteN b (4 * i + 1) * 256) % 4294967296) = _
  rw [part_1, Nat.mod_eq_of_lt (by omega), or_8 (by omega)]
theorem part_3 (b : List UInt8) (i : Nat) : part b i 3 = byteN b (4 * i) + byteN b (4 * i + 1) * 256 + byteN b (4 * i + 2) * 65536 := by
  have h0 := byteN_lt b (4 * i); have h1 := byteN_lt b (4 * i + 1); have h2 := byteN_lt b (4 * i + 2)
  show (part b i 2 ||| (byteN b (4 * i + 2) * 65536) % 4294967296) = _
  rw [part_2, Nat.mod_eq_of_lt (by omega), or_16 (by omega)]
theorem part_4 (b : List UInt8) (i : Nat) : part b i 4 = wd b i := by
  have h0 := byteN_lt b (4 * i); have h1 := byteN_lt b (4 * i + 1); have h2 := byteN_lt b (4 * i + 2); have h3 := byteN_lt b (4 * i + 3)
  show (part b i 3 ||| (byteN b (4 * i + 3) * 16777216) % 4294967296) = _
  rw [part_3, Nat.mod_eq_of_lt (by omega), or_24 (by omega)]
  rfl
theorem part_lt (b : List UInt8) (i : Nat) : ∀ k, part b i k < 4294967296
  | 0 => by simp [part]
  | k + 1 => Nat.or_lt_two_pow (n := 32) (part_lt b i k) (Nat.mod_lt _ (by omega))
def words (b : List UInt8) : List Nat := (List.range 16).map (wd b)
theorem words_get (b : List UInt8) {j : Nat} (h : j < 16) : (words b).getD j 0 = wd b j := by
  unfold words
  rw [List.getD_eq_getElem?_getD, List.getElem?_map, List.getElem?_range h, Option.map_some, Option.getD_some]
def mixAt (b : List UInt8) (l : List Nat) (i : Nat) (v : List Nat) : List Nat := mixV v (plA i) (plB i) (plC i) (plD i) (wd b (l.getD (2 * i) 0)) (wd b (l.getD (2 * i + 1) 0))
def lineGo (b : List UInt8) (l : List Nat) : Nat → Nat → List Nat → List Nat
  | 0, _, v => v
  | n + 1, i, v => lineGo b l n (i + 1) (mixAt b l i v)
def allGo (b : List UInt8) : List (List Nat) → List Nat → List Nat
  | [], v => v
  | l :: r, v => allGo b r (lineGo b l 8 0 v)
theorem OkV.mixAt {v : List Nat} {n : Nat} (h : OkV n v) (b : List UInt8) (l : List Nat) (i : Nat) : OkV n (mixAt b l i v) := h.mixV _ _ _ _ _ _
theorem OkV.lineGo {n : Nat} (b : List UInt8) (l : List Nat) : ∀ (k i : Nat) {v : List Nat}, OkV n v → OkV n (lineGo b l k i v)
  | 0, _, _, h => h
  | k + 1, i, _, h => OkV.lineGo b l k (i + 1) (h.mixAt b l i)
theorem OkV.allGo {n : Nat} (b : List UInt8) : ∀ (l : List (List Nat)) {v : List Nat}, OkV n v → OkV n (allGo b l v)
  | [], _, h => h
  | l :: r, _, h => OkV.allGo b r (h.lineGo b l 8 0)
def startV (h : List Nat) (many : Nat) (last : Bool) : List Nat :=
  let v0 := h ++ ivN
  let v1 := v0.set 12 (v0.getD 12 0 ^^^ many % 4294967296)
  let v2 := v1.set 13 (v1.getD 13 0 ^^^ many / 4294967296 % 4294967296)
  if last then v2.set 14 (4294967295 - v2.getD 14 0) else v2
theorem OkV.app {n m : Nat} {v u : List Nat} (h : OkV n v) (h2 : OkV m u) : OkV (n + m) (v ++ u) :=
  ⟨by rw [List.length_append, h.len, h2.len], fun x hx => by
    rcases List.mem_append.1 hx with hx | hx
    · exact h.lt x hx
    · exact h2.lt x hx⟩
theorem OkV.startV {h : List Nat} (ho : OkV 8 h) (many : Nat) (last : Bool) : OkV 16 (startV h many last) := by
  have h0 : OkV 16 (h ++ ivN) := ho.app ivN_ok
  have h1 := h0.set 12 (x := (h ++ ivN).getD 12 0 ^^^ many % 4294967296) (xor_lt32 (h0.get _) (Nat.mod_lt _ (by omega)))
  have h2 := h1.set 13 (x := ((h ++ ivN).set 12 ((h ++ ivN).getD 12 0 ^^^ many % 4294967296)).getD 13 0 ^^^ many / 4294967296 % 4294967296) (xor_lt32 (h1.get _) (Nat.mod_lt _ (by omega)))
  unfold Go.Larder.startV
  cases last
  · exact h2
  · exact h2.set 14 (by omega)
def endGo (v : List Nat) : Nat → Nat → List Nat → List Nat
  | 0, _, h => h
  | n + 1, i, h => endGo v n (i + 1) (h.set i (h.getD i 0 ^^^ (v.getD i 0 ^^^ v.getD (i + 8) 0)))
theorem OkV.endGo {n m : Nat} {v : List Nat} (hv : OkV m v) : ∀ (k i : Nat) {h : List Nat}, OkV n h → OkV n (endGo v k i h)
  | 0, _, _, h => h
  | k + 1, i, _, h => OkV.endGo hv k (i + 1) (h.set i (xor_lt32 (h.get _) (xor_lt32 (hv.get _) (hv.get _))))
def blockN (h : List Nat) (b : List UInt8) (many : Nat) (last : Bool) : List Nat := endGo (allGo b sigN (startV h many last)) 8 0 h
theorem blockN_of {h : List Nat} {b : List UInt8} {many : Nat} {last : Bool} {v : List Nat} (hv : allGo b sigN (startV h many last) = v) : blockN h b many last = endGo v 8 0 h := by subst hv; rfl
theorem OkV.blockN {h : List Nat} (ho : OkV 8 h) (b : List UInt8) (many : Nat) (last : Bool) : OkV 8 (blockN h b many last) := OkV.endGo ((ho.startV many last).allGo b sigN) 8 0 ho
def padB (b : List UInt8) : List UInt8 := b ++ List.replicate (64 - b.length) 0
def digGo (h : List Nat) (at_ : Nat) (r : List UInt8) : List Nat :=
  if hr : r.length ≤ 64 then blockN h (padB r) (at_ + r.length) true else digGo (blockN h (r.take 64) (at_ + 64) false) (at_ + 64) (r.drop 64)
termination_by r.length
decreasing_by simp only [List.length_drop]; omega
theorem digGo_last {h : List Nat} {k : Nat} {r : List UInt8} (hr : r.length ≤ 64) : digGo h k r = blockN h (padB r) (k + r.length) true := by rw [digGo, dif_pos hr]
theorem digGo_more {h : List Nat} {k : Nat} {r : List UInt8} (hr : ¬ r.length ≤ 64) : digGo h k r = digGo (blockN h (r.take 64) (k + 64) false) (k + 64) (r.drop 64) := by rw [digGo, dif_neg hr]
def startH : List Nat := ivN.set 0 (ivN.getD 0 0 ^^^ 16842784)
theorem startH_ok : OkV 8 startH := ivN_ok.set 0 (by decide)
def digN (s : List UInt8) : List Nat := digGo startH 0 s
def digL (s : List UInt8) : List UInt8 := (digN s).flatMap le4
/-- what a hash that has taken 'all' in keeps -/
structure DgAt (all : List UInt8) (h : List Nat) (many : Nat) (rest : List UInt8) : Prop where
  ok : OkV 8 h
  sum : many + rest.length = all.length
  eq : ∀ t, digGo startH 0 (all ++ t) = digGo h many (rest ++ t)
theorem DgAt.start : DgAt [] startH 0 [] := ⟨startH_ok, rfl, fun t => rfl⟩
theorem DgAt.more {all rest s : List UInt8} {h : List Nat} {many : Nat} (hd : DgAt all h many rest) : DgAt (all ++ s) h many (rest ++ s) :=
  ⟨hd.ok, by have := hd.sum; simp only [List.length_append]; omega, fun t => by rw [List.append_assoc, List.append_assoc]; exact hd.eq (s ++ t)⟩
theorem DgAt.step {all rest : List UInt8} {h : List Nat} {many : Nat} (hd : DgAt all h many rest) (hr : 64 < rest.length) : DgAt all (blockN h (rest.take 64) (many + 64) false) (many + 64) (rest.drop 64) :=
  ⟨hd.ok.blockN _ _ _, by have := hd.sum; simp only [List.length_drop]; omega, fun t => by
    rw [hd.eq t, digGo_more (by rw [List.length_append]; omega), List.take_append_of_le_length (by omega), List.drop_append_of_le_length (by omega)]⟩
theorem DgAt.fin {all rest : List UInt8} {h : List Nat} {many : Nat} (hd : DgAt all h many rest) (hr : rest.length ≤ 64) : digN all = blockN h (padB rest) (many + rest.length) true := by
  have := hd.eq []
  rw [List.append_nil, List.append_nil] at this
  unfold digN
  rw [this, digGo_last hr]
theorem digN_ok (s : List UInt8) : OkV 8 (digN s) := by
  unfold digN
  suffices ∀ (n : Nat) (h : List Nat) (k : Nat) (r : List UInt8), r.length ≤ n → OkV 8 h → OkV 8 (digGo h k r) from this s.length startH 0 s (Nat.le_refl _) startH_ok
  intro n
  induction n with
  | zero => intro h k r hr ho; rw [digGo_last (by omega)]; exact ho.blockN _ _ _
  | succ n ih =>
    intro h k r hr ho
    by_cases h64 : r.length ≤ 64
    · rw [digGo_last h64]; exact ho.blockN _ _ _
    · rw [digGo_more h64]
      exact ih _ _ _ (by simp only [List.length_drop]; omega) (ho.blockN _ _ _)
theorem digL_len (s : List UInt8) : (digL s).length = 32 := by
  have h := (digN_ok s).len
  unfold digL
  rw [List.length_flatMap]
  have : ∀ l : List Nat, (l.map fun a => (le4 a).length).sum = 4 * l.length := by
    intro l
    induction l with
    | nil => rfl
    | cons x l ih => rw [List.map_cons, List.sum_cons, ih, List.length_cons]; simp [le4]; omega
  rw [this, h]
end Go.Larder
end

/- SpecDg2 -/
section
namespace Go.Larder
set_option linter.unusedSimpArgs false
set_option linter.unusedVariables false
theorem set_mid {l : List Nat} {i p q : Nat} {r : List Nat} (h : l.length = i) : (l ++ p :: r).set i q = l ++ q :: r := by subst h; simp
theorem words_len (b : List UInt8) : (words b).length = 16 := by simp [words]
theorem words_at (b : List UInt8) {i : Nat} (h : i < 16) : (words b)[i]? = some (wd b i) := by
  unfold words
  rw [List.getElem?_map, List.getElem?_range h]
  rfl
theorem words_step (b : List UInt8) {i : Nat} (h : i < 16) : (words b).take i ++ Go.Larder.part b i 4 :: List.replicate (15 - i) 0 = (words b).take (i + 1) ++ List.replicate (16 - (i + 1)) 0 := by
  rw [part_4, List.take_add_one, words_at b h, show 16 - (i + 1) = 15 - i from by omega]
  simp
theorem words_all (b : List UInt8) : (words b).take 16 ++ List.replicate (16 - 16) 0 = words b := by
  rw [List.take_of_length_le (by rw [words_len]; exact Nat.le_refl _)]
  simp
theorem words_ok (b : List UInt8) : OkV 16 (words b) := ⟨words_len b, fun x hx => by
  unfold words at hx
  obtain ⟨k, _, rfl⟩ := List.mem_map.1 hx
  exact wd_lt b k⟩
end Go.Larder
end

/- SpecDg3 -/
section
namespace Go.Larder
set_option linter.unusedSimpArgs false
set_option linter.unusedVariables false
def upN (m : Nat) : Nat := m / 4294967296 * (m / 4294967296) + m / 4294967296 * (m % 4294967296) / 2147483648
def loN (m : Nat) : Nat := m / 4294967296 * (m % 4294967296) * 8589934592 % 18446744073709551616 / 4294967296 + m % 4294967296 * (m % 4294967296) / 4294967296
def rootGo (p : Nat) : Nat → Nat → Nat → Nat
  | 0, low, _ => low
  | n + 1, low, high => if high - low > 1 then (if p ≤ upN ((low + high) / 2) + loN ((low + high) / 2) / 4294967296 then rootGo p n low ((low + high) / 2) else rootGo p n ((low + high) / 2) high) else low
def rootN (p : Nat) : Nat := rootGo p 35 4294967296 21474836480 % 4294967296
theorem root_2 : rootN 2 = 1779033703 := by kernel_rfl
theorem root_3 : rootN 3 = 3144134277 := by kernel_rfl
theorem root_5 : rootN 5 = 1013904242 := by kernel_rfl
theorem root_7 : rootN 7 = 2773480762 := by kernel_rfl
theorem root_11 : rootN 11 = 1359893119 := by kernel_rfl
theorem root_13 : rootN 13 = 2600822924 := by kernel_rfl
theorem root_17 : rootN 17 = 528734635 := by kernel_rfl
theorem root_19 : rootN 19 = 1541459225 := by kernel_rfl
theorem root_end {p n low high : Nat} (h : ¬ high - low > 1) : rootGo p n low high = low := by
  cases n with
  | zero => rfl
  | succ n => rw [rootGo, if_neg h]
end Go.Larder
end

/- Box -/
section
namespace Go.Larder
open Go.RowKit
set_option linter.unusedVariables false
set_option linter.unusedSimpArgs false
theorem run_loadVar_cells {P : Program} (w : World) (g : Nat) (ty : TypeId) (vs : List Value) (d : TypeDesc) (hc : ∀ j v, vs[j]? = some v → w.cell? ⟨g, j, none⟩ = some v)
    (hu : P.underlying ty = some d) (hd : (match d with | .struct _ | .array _ _ => true | _ => false) = true) (hi : (P.info? ty).map (·.size) = some vs.length) :
    (loadVar ty ⟨g, 0, none⟩).run P w = .ok (.agg vs.toArray) w := by
  have hl : (loadCells ⟨g, 0, none⟩ vs.length).run P w = .ok vs.toArray w :=
    run_loadCells_list (P := P) w ⟨g, 0, none⟩ vs (fun j v hv => by
      have hadd : (⟨g, 0, none⟩ : Addr).add j = ⟨g, j, none⟩ := by unfold Addr.add; split <;> simp_all
      rw [hadd]
      exact hc j v hv)
  cases hq : P.info? ty with
  | none => simp [hq] at hi
  | some i =>
    have hs : i.size = vs.length := by simpa [hq] using hi
    have hagg : (isAgg ty).run P w = .ok true w := by
      unfold isAgg
      rw [Sem.run_bind, run_underlying hu w]
      cases d <;> simp_all
    simp [loadVar, Sem.run_bind, hagg, sizeOf, typeInfo, hq, hs, hl]
theorem results_box2 {P : Program} {fn : Func} {p u : Tmp} {ty : TypeId} (h : fn.results = #[.cell p ty, .tmp u]) (tmps : Array Value) (w : World) (g : Nat) (vs : List Value) (d : TypeDesc)
    (hp : tmps.getD p undef = .pointer (some ⟨g, 0, none⟩)) (hc : ∀ j v, vs[j]? = some v → w.cell? ⟨g, j, none⟩ = some v)
    (hu : P.underlying ty = some d) (hd : (match d with | .struct _ | .array _ _ => true | _ => false) = true) (hi : (P.info? ty).map (·.size) = some vs.length) :
    (results fn tmps).run P w = .ok (.tuple #[.agg vs.toArray, tmps.getD u undef]) w := by
  rw [results_cell_tmp h, hp]
  simp [asAddr, run_loadVar_cells w g ty vs d hc hu hd hi, Result.andThen]
theorem stored3 {w : World} {g : Nat} {x y z a b c : Value} (h0 : w.cell? ⟨g, 0, none⟩ = some a) (h1 : w.cell? ⟨g, 1, none⟩ = some b) (h2 : w.cell? ⟨g, 2, none⟩ = some c) :
    ∀ j v, [x, y, z][j]? = some v → (((w.setCell ⟨g, 0, none⟩ x).setCell ⟨g, 1, none⟩ y).setCell ⟨g, 2, none⟩ z).cell? ⟨g, j, none⟩ = some v := by
  intro j v hv
  have hj : j < [x, y, z].length := (List.getElem?_eq_some_iff.1 hv).1
  have := World.cell?_setCells_in g [x, y, z] 0 w (fun j hj => by
    rcases j with _ | _ | _ | j
    · simp [h0]
    · simp [h1]
    · simp [h2]
    · (simp at hj; omega)) j hj
  rw [Nat.zero_add] at this
  rw [(List.getElem?_eq_some_iff.1 hv).2] at this
  exact this
theorem below_stored3 {w0 w : World} {B g : Nat} {x y z : Value} (h : Below B w0 w) (hB : B ≤ g) : Below B w0 (((w.setCell ⟨g, 0, none⟩ x).setCell ⟨g, 1, none⟩ y).setCell ⟨g, 2, none⟩ z) :=
  ((h.setCell (p := ⟨g, 0, none⟩) hB _).setCell (p := ⟨g, 1, none⟩) hB _).setCell (p := ⟨g, 2, none⟩) hB _
end Go.Larder
end

/- BoxAt -/
section
namespace Go.Larder
open Go.RowKit
set_option linter.unusedVariables false
set_option linter.unusedSimpArgs false
/-- Block g holds the cells cs. -/
def BoxAt (w : World) (g : Nat) (t : TypeId) (cs : List Value) : Prop := w.heap[g]? = some (.cells cs.toArray t (0, 0))
section
variable {w w' : World} {g : Nat} {t : TypeId} {cs : List Value}
theorem BoxAt.new (w : World) (cs : List Value) (t : TypeId) : BoxAt (w.alloc (.cells cs.toArray t)) w.heap.size t cs := heap_alloc_new w _
theorem BoxAt.lt (h : BoxAt w g t cs) : g < w.heap.size := by
  rcases Nat.lt_or_ge g w.heap.size with h' | h'
  · exact h'
  · unfold BoxAt at h; rw [Array.getElem?_eq_none h'] at h; cases h
theorem BoxAt.kept {B : Nat} (h : BoxAt w g t cs) (hb : Below B w w') (hg : g < B) : BoxAt w' g t cs := (hb.block g hg).trans h
theorem BoxAt.keep (h : BoxAt w g t cs) (hb : Below w.heap.size w w') : BoxAt w' g t cs := h.kept hb h.lt
theorem BoxAt.cell (h : BoxAt w g t cs) {j : Nat} {v : Value} (hv : cs[j]? = some v) : w.cell? ⟨g, j, none⟩ = some v := by
  rw [cell_of_row w g j cs.toArray t (0, 0) h]; simpa using hv
theorem BoxAt.free (h : BoxAt w g t cs) (j : Nat) : w.frozen? ⟨g, j, none⟩ = false := by
  unfold BoxAt at h
  simp [World.frozen?, h]
theorem BoxAt.alloc (h : BoxAt w g t cs) (o : Obj) : BoxAt (w.alloc o) g t cs := h.kept ((Below.refl (g + 1) w).alloc h.lt o) (by omega)
theorem BoxAt.drew (h : BoxAt w g t cs) : BoxAt w.drew g t cs := h
theorem BoxAt.set (h : BoxAt w g t cs) (j : Nat) (v : Value) : BoxAt (w.setCell ⟨g, j, none⟩ v) g t (cs.set j v) := by
  have := heap_setCell_same w g j cs.toArray t v h
  unfold BoxAt
  rw [this]
  simp
theorem BoxAt.setOther (h : BoxAt w g t cs) (a : Addr) (ha : g ≠ a.block) (v : Value) : BoxAt (w.setCell a v) g t cs := (heap_setCell_other w a g v ha).trans h
theorem BoxAt.all (h : BoxAt w g t cs) : ∀ j v, cs[j]? = some v → w.cell? ⟨g, j, none⟩ = some v := fun _ _ hv => h.cell hv
end
theorem results_cell_tmp2 {fn : Func} {p u v : Tmp} {ty : TypeId} (h : fn.results = #[.cell p ty, .tmp u, .tmp v]) (tmps : Array Value) (P : Program) (w : World) :
    (results fn tmps).run P w =
      ((asAddr (tmps.getD p undef)).run P w).andThen fun a w₁ => ((loadVar ty a).run P w₁).andThen fun x w₂ => .ok (.tuple #[x, tmps.getD u undef, tmps.getD v undef]) w₂ := by
  simp only [results, h]
  simp [Sem.run_bind, Result.andThen]
/-- Three results, the first one in a box. -/
theorem results_box3 {P : Program} {fn : Func} {p u v : Tmp} {ty : TypeId} (h : fn.results = #[.cell p ty, .tmp u, .tmp v]) (tmps : Array Value) (w : World) (g : Nat) (vs : List Value) (d : TypeDesc)
    (hp : tmps.getD p undef = .pointer (some ⟨g, 0, none⟩)) (hc : ∀ j v, vs[j]? = some v → w.cell? ⟨g, j, none⟩ = some v)
    (hu : P.underlying ty = some d) (hd : (match d with | .struct _ | .array _ _ => true | _ => false) = true) (hi : (P.info? ty).map (·.size) = some vs.length) :
    (results fn tmps).run P w = .ok (.tuple #[.agg vs.toArray, tmps.getD u undef, tmps.getD v undef]) w := by
  have hl := run_loadVar_cells w g ty vs d hc hu hd hi
  rw [results_cell_tmp2 h, hp]
  simp [asAddr, hl, Result.andThen]
end Go.Larder
end

/- Rng -/
section
namespace Go.Larder
open Go Go.RowKit
set_option linter.unusedVariables false
variable {F : Fence} {n : Nat} {P : Program}
/-- A loop's record, by its state and its pending jump. -/
abbrev RecOf := LoopState → Option Code → Loop
/-- What a round's body leaves: the record as it was laid; and R of the world in which the round is over. -/
def rndPost (l : Nat) (rc : RecOf) (R : Ending → World → Prop) : Exit → Act → World → Prop
  | .normal, _, W => W.heap[l]? = some (.loop (rc .busy none)) ∧ R (.returned (.bool true)) (W.putObj l (.loop (rc .ready none)))
  | .ret, _, W => W.heap[l]? = some (.loop (rc .busy none)) ∧ R (.returned (.bool false)) (W.putObj l (.loop (rc .done (some .ret))))
  | .exit id, _, W => W.heap[l]? = some (.loop (rc .busy none)) ∧ R (.returned (.bool false)) (W.putObj l (.loop (rc .done (some (.exit id)))))
  | .goto t, _, W => W.heap[l]? = some (.loop (rc .busy none)) ∧ R (.returned (.bool false)) (W.putObj l (.loop (rc .done (some (.goto t)))))
  | .panic _, _, _ => False
  | .outgrown, _, _ => False
theorem range_raw {α : Type} {g : Operand} {ps : Array Tmp} {assign body : Code} {Q : Exit → Act → World → Prop} {a : Act} {w : World}
    (hro : F.round = none) (h1 : 1 ≤ n) {gf : Nat} {lb : Array Value} (hg : a.eval g = .func (.func gf) #[] lb) (hFg : F.fn gf) (eg : ∀ args w, (callFunc gf args).run P w = .ok (.enter gf args) w)
    {encs : α → Array Value} (hps : ∀ x, (encs x).size = ps.size)
    (hit : ∀ (rc : RecOf) (W1 : World), (w.alloc (.deferred (some []))).alloc (.loop (rc .ready none)) = W1 →
      W1.heap[w.heap.size + 1]? = some (.loop (rc .ready none)) → W1.heap[w.heap.size]? = some (.deferred (some [])) → Below w.heap.size w W1 →
      (∀ (x : α) (W : World) (R : Ending → World → Prop), W.heap[w.heap.size + 1]? = some (.loop (rc .ready none)) →
        assign.wpIn (F.inRound (w.heap.size + 1)) (n - 1 - 1) P (Exit.then (fun a' W' => W'.heap[w.heap.size + 1]? = some (.loop (rc .ready none)) ∧
          body.wpIn (F.inRound (w.heap.size + 1)) (n - 1 - 1) P (rndPost (w.heap.size + 1) rc R) a' (W'.putObj (w.heap.size + 1) (.loop (rc .busy none)))) (fun _ _ _ => False))
          { tmps := (ps.zip (encs x)).foldl (fun t (p, v) => t.setIfInBounds p v) a.tmps, defers := [] } W →
        YieldAt F (n - 1 - 1) P (w.heap.size + 1) (encs x) W R) →
      CallsIn F (n - 1) P gf (#[.func (.yield (w.heap.size + 1)) #[] #[]] ++ lb) W1 fun e W' => (∃ v, e = .returned v) ∧
        ((W'.heap[w.heap.size + 1]? = some (.loop (rc .ready none)) ∧ Q .normal { a with defers := { target := .collected w.heap.size, args := #[] } :: a.defers } (W'.putObj (w.heap.size + 1) (.loop (rc .exhausted none)))) ∨
         (∃ c, W'.heap[w.heap.size + 1]? = some (.loop (rc .done (some c))) ∧ c.wpIn F n P Q { a with defers := { target := .collected w.heap.size, args := #[] } :: a.defers } (W'.putObj (w.heap.size + 1) (.loop (rc .exhausted (some c))))))) :
    (Code.rangeFunc g ps assign body).wpIn F n P Q a w := by
  refine wpIn_rangeFunc ?_
  intro fn hfn
  rw [hro]
  obtain ⟨rc, hrc⟩ : ∃ rc : RecOf, rc = fun st pe => { state := st, pending := pe, fn, tmps := a.tmps, params := ps, assign, body, defers := w.heap.size } := ⟨_, rfl⟩
  have hL : ((w.alloc (.deferred (some []))).alloc (.loop (rc .ready none))).heap[w.heap.size + 1]? = some (.loop (rc .ready none)) := by
    have := World.alloc_heap_new (w.alloc (.deferred (some []))) (.loop (rc .ready none)); rwa [World.size_alloc] at this
  have hD : ((w.alloc (.deferred (some []))).alloc (.loop (rc .ready none))).heap[w.heap.size]? = some (.deferred (some [])) :=
    (Below.heap_alloc _ _ _ (by simp)).trans (World.alloc_heap_new w _)
  have hB : Below w.heap.size w ((w.alloc (.deferred (some []))).alloc (.loop (rc .ready none))) := ((Below.refl _ w).alloc (Nat.le_refl _) _).alloc (by simp) _
  refine ⟨w.heap.size + 1, [{ target := .collected w.heap.size, args := #[] }], (w.alloc (.deferred (some []))).alloc (.loop (rc .ready none)), { target := .fn (.func gf) lb, args := #[.func (.yield (w.heap.size + 1)) #[] #[]] }, (w.alloc (.deferred (some []))).alloc (.loop (rc .ready none)), gf,
    #[.func (.yield (w.heap.size + 1)) #[] #[]] ++ lb, (w.alloc (.deferred (some []))).alloc (.loop (rc .ready none)), ?_, ?_, ?_, ?_, fun _ => h1, ?_⟩
  · rw [hrc]; exact run_enterLoop_outer _ _ _ _ _
  · simp only [resolve, hg]
    simp [go_sem]
  · intro f' hf'; simp [Target.leads] at hf'; subst hf'; exact hFg
  · simp [invoke, go_sem, eg]
  · refine (hit rc _ rfl hL hD hB ?_).mono ?_
    · intro x W R hl hw
      have hy := run_yield (P := P) (args := encs x) hl (by rw [hrc]; exact hps x)
      rw [hrc] at hy
      refine ⟨fn, _, assign, body, hy, roundIn_of_wpIn hfn ?_⟩
      refine wpIn_mono hw ?_
      rintro e a' W' hp
      cases e with
      | normal =>
        obtain ⟨hl', hb⟩ := hp
        refine ⟨_, run_beginRound hl' (by rw [hrc]), ?_⟩
        have e1 : (Obj.loop { rc .ready none with state := .busy }) = .loop (rc .busy none) := by rw [hrc]
        rw [e1]
        refine wpIn_mono hb ?_
        have fin : ∀ (jump : Option Code) (W3 : World), W3.heap[w.heap.size + 1]? = some (.loop (rc .busy none)) →
            (Instr.endRound (w.heap.size + 1) jump).run P W3 = .ok (.bool jump.isNone) (W3.putObj (w.heap.size + 1) (.loop (rc (if jump.isNone then .ready else .done) jump))) := fun jump W3 h3 => by
          have := run_endRound (P := P) jump h3
          rw [hrc] at this ⊢
          exact this
        rintro e a3 W3 hq
        cases e with
        | normal => exact ⟨_, _, fin none W3 hq.1, hq.2⟩
        | ret => exact ⟨_, _, fin (some .ret) W3 hq.1, hq.2⟩
        | exit id => exact ⟨_, _, fin (some (.exit id)) W3 hq.1, hq.2⟩
        | goto t => exact ⟨_, _, fin (some (.goto t)) W3 hq.1, hq.2⟩
        | panic ch => exact hq.elim
        | outgrown => exact hq.elim
      | ret => exact hp
      | exit id => exact hp
      | goto t => exact hp
      | panic ch => exact hp
      | outgrown => exact hp
    · rintro e W2 ⟨⟨v, rfl⟩, (⟨hl, hq⟩ | ⟨c, hl, hq⟩)⟩
      · have := run_endLoop (P := P) hl (by rw [hrc]; simp)
        refine ⟨none, _, by rw [hrc] at this; exact this, ?_⟩
        have e1 : (Obj.loop { state := .exhausted, pending := none, fn := fn, tmps := a.tmps, params := ps, assign := assign, body := body, defers := w.heap.size }) = .loop (rc .exhausted none) := by rw [hrc]
        rw [hrc] at hq
        exact hq
      · have := run_endLoop (P := P) hl (by rw [hrc]; simp)
        refine ⟨some c, _, by rw [hrc] at this; exact this, ?_⟩
        rw [hrc] at hq
        exact hq
end Go.Larder
end

/- AppI -/
section
namespace Go.Larder
open Go Go.RowKit
set_option linter.unusedVariables false
set_option linter.unusedSimpArgs false
section
variable {F : Fence} {n : Nat} {P : Program} {w : World} {ops : Array Oper} {rest : List Oper} {o : Oper} {a : Act} {Q : Exit → Act → World → Prop} {t e : TypeId} {bytes : Nat} {α : Type} {base c : Nat} {A : Option Addr} {l : List α}
theorem wpListIn_app (E : ElemT α) (T : SlT P t e E.size bytes) (news : List α) (hgd : o.guard = none) (s x : Operand)
    (ho : o.op = .call { callee := .builtin .append, args := #[s, x], argTypes := #[t, t] })
    (hs : a.eval s = .slice A l.length c) (hown : OwnL E w base e A c l) (cs : Array Value) (hcs : cs.toList = news.flatMap E.enc) (m : Nat) (hm : news.length = m + 1)
    (hx : a.eval x = .slice (some ⟨w.heap.size, 0, none⟩) (m + 1) (m + 1)) (hb : (l.length + (m + 1)) * bytes ≤ 140737488355328) (h63 : l.length + (m + 1) ≤ maxLen) (hbase : base ≤ w.heap.size)
    (k : ∀ g c' w', OwnL E w' base e (some ⟨g, 0, none⟩) c' (l ++ news) → Below base w w' → wpListIn F n P ops Q rest (a.put o.dst (.slice (some ⟨g, 0, none⟩) (l.length + (m + 1)) c')) w') :
    wpListIn F n P ops Q (o :: rest) a (w.alloc (.cells cs e)) := by
  obtain ⟨i, z, hi, hz, hz1, hz2, hz3⟩ := T.info
  have hlen : news.length = m + 1 := hm
  refine wpListIn_append_own _ hgd s x t ho base e i z E.size bytes T.ht hi hz hz1 hz2 hz3 E.pos (.slice A l.length c) l.length (l.flatMap E.enc) hs (World.ownsRow.alloc hown _) ⟨w.heap.size, 0, none⟩ (m + 1) (m + 1) (news.flatMap E.enc) hx
    (by rw [E.length_flatMap, hlen]) ?_ (E.one_flatMap news) h63 hb (by simp; omega) ?_
  · intro j u hj
    exact World.news_of_block (heap_alloc_new w (.cells cs e)) j u (by rw [hcs]; exact hj)
  · intro v' w' h1 h2 _
    obtain ⟨g, cap, rfl⟩ : ∃ g cap, v' = .slice (some ⟨g, 0, none⟩) (l.length + (m + 1)) cap := by
      rcases h1.2 with ⟨_, h0⟩ | ⟨g, cap, _, rfl, _⟩
      · omega
      · exact ⟨g, cap, rfl⟩
    have hl : (l ++ news).length = l.length + (m + 1) := by simp [hlen]
    have hg2 : w.grownBy w' (Value.slice A l.length c).ownBlock :=
      ⟨h2.os, h2.tape, h2.output, Nat.le_trans (by simp) h2.size, fun i hi hne => (h2.block i (by simp; omega) hne).trans (Below.heap_alloc w _ i hi)⟩
    refine k g cap w' ?_ ⟨h2.os, h2.tape, h2.output, Nat.le_trans (by simp) h2.size, fun i hi => hg2.block i (by omega) ?_⟩
    · unfold OwnL
      rw [hl, List.flatMap_append]
      exact h1
    · intro hne
      cases A with
      | none => simp [Value.ownBlock] at hne
      | some g' =>
        have := (OwnL.lt hown g' rfl).1
        simp [Value.ownBlock] at hne
        omega
end
theorem run_loadVar_one {P : Program} {w : World} {g : Nat} {ty : TypeId} {d : TypeDesc} {v : Value} (hc : w.cell? ⟨g, 0, none⟩ = some v) (hu : P.underlying ty = some d) (hd : (match d with | .struct _ | .array _ _ => true | _ => false) = false) : (loadVar ty ⟨g, 0, none⟩).run P w = .ok v w := by
  have hagg : (isAgg ty).run P w = .ok false w := by
    unfold isAgg
    rw [Sem.run_bind, run_underlying hu w]
    cases d <;> simp_all
  simp [loadVar, Sem.run_bind, hagg, go_sem, hc, Result.andThen]
theorem results_cc {P : Program} {fn : Func} {p q : Tmp} {t1 t2 : TypeId} (h : fn.results = #[.cell p t1, .cell q t2]) {tmps : Array Value} {w : World} {g1 g2 : Nat} {v1 v2 : Value} {d1 d2 : TypeDesc}
    (hp : tmps.getD p undef = .pointer (some ⟨g1, 0, none⟩)) (hq : tmps.getD q undef = .pointer (some ⟨g2, 0, none⟩)) (h1 : w.cell? ⟨g1, 0, none⟩ = some v1) (h2 : w.cell? ⟨g2, 0, none⟩ = some v2)
    (u1 : P.underlying t1 = some d1) (e1 : (match d1 with | .struct _ | .array _ _ => true | _ => false) = false) (u2 : P.underlying t2 = some d2) (e2 : (match d2 with | .struct _ | .array _ _ => true | _ => false) = false) :
    (results fn tmps).run P w = .ok (.tuple #[v1, v2]) w := by
  have l1 := run_loadVar_one (P := P) h1 u1 e1
  have l2 := run_loadVar_one (P := P) h2 u2 e2
  rw [Array.getD_eq_getD_getElem?] at hp hq
  simp [results, h, hp, hq, asAddr, Sem.run_bind, l1, l2, Result.andThen]
theorem below_put {B : Nat} {a w : World} (h : Below B a w) (r : Nat) (o : Obj) (hr : B ≤ r) : Below B a (w.putObj r o) :=
  ⟨h.os, h.tape, h.output, by rw [World.putObj_size]; exact h.size, fun k hk => (World.putObj_heap_other (by omega)).trans (h.block k hk)⟩
theorem BoxAt.put {w : World} {g : Nat} {t : TypeId} {cs : List Value} (h : BoxAt w g t cs) (r : Nat) (o : Obj) (hr : g ≠ r) : BoxAt (w.putObj r o) g t cs := (World.putObj_heap_other hr).trans h
theorem OwnL.put {α : Type} {E : ElemT α} {w : World} {B c : Nat} {e : TypeId} {A : Option Addr} {l : List α} (h : OwnL E w B e A c l) (r : Nat) (o : Obj) (hr : r < B) : OwnL E (w.putObj r o) B e A c l :=
  h.keep fun g hg => World.putObj_heap_other (by have := (h.lt g hg).1; omega)
end Go.Larder
end

/- App -/
section
namespace Go.Larder
open Go.RowKit Go.WideShapes
set_option linter.unusedVariables false
set_option linter.unusedSimpArgs false

section
variable {P : Program} {w : World} {ops : Array Oper} {rest : List Oper} {o : Oper} {a : Act} {Q : Exit → Act → World → Prop} {t e : TypeId} {size bytes : Nat} {α : Type} {base c : Nat} {A A' : Option Addr} {l : List α}

theorem flat_at (E : ElemT α) (news : List α) (j : Nat) (u : Value) (h : (news.flatMap E.enc)[j]? = some u) : ∃ k r x, j = k * E.size + r ∧ news[k]? = some x ∧ (E.enc x)[r]? = some u := by
  have hp := E.pos
  have hj : j < news.length * E.size := by
    have := (List.getElem?_eq_some_iff.1 h).1
    rwa [E.length_flatMap] at this
  have hk : j / E.size < news.length := Nat.div_lt_of_lt_mul (by rw [Nat.mul_comm]; exact hj)
  have hr : j % E.size < E.size := Nat.mod_lt _ hp
  have hx := List.getElem?_eq_getElem hk
  have hu : (E.enc news[j / E.size])[j % E.size]? = some ((E.enc news[j / E.size])[j % E.size]'(by rw [E.len]; exact hr)) := List.getElem?_eq_getElem _
  have hsum : j = j / E.size * E.size + j % E.size := by rw [Nat.mul_comm]; exact (Nat.div_add_mod j E.size).symm
  have := E.get_flatMap news _ _ _ _ hx hu
  rw [← hsum, h] at this
  injection this with this
  exact ⟨_, _, _, hsum, hx, by rw [hu, this]⟩

/-- 'append(s, xs...)': xs reads as a list. -/
theorem wpList_app_sl (E : ElemT α) (T : SlT P t e E.size bytes) (news : List α) (hgd : o.guard = none) (s x : Operand)
    (ho : o.op = .call { callee := .builtin .append, args := #[s, x], argTypes := #[t, t] })
    (hs : a.eval s = .slice A l.length c) (hown : OwnL E w base e A c l) {B c' : Nat} {ad : Addr} (hx : a.eval x = .slice (some ad) news.length c') (hr : ReadL E w B (some ad) news)
    (hb : (l.length + news.length) * bytes ≤ 140737488355328) (h63 : l.length + news.length ≤ maxLen) (hbase : base ≤ w.heap.size)
    (k : ∀ A2 c2 w', OwnL E w' base e A2 c2 (l ++ news) → Below base w w' → wpList P ops Q rest (a.put o.dst (.slice A2 (l.length + news.length) c2)) w') :
    wpList P ops Q (o :: rest) a w := by
  obtain ⟨i, z, hi, hz, hz1, hz2, hz3⟩ := T.info
  refine wpList_append_own _ hgd s x t ho base e i z E.size bytes T.ht hi hz hz1 hz2 hz3 E.pos (.slice A l.length c) l.length (l.flatMap E.enc) hs hown ad news.length c' (news.flatMap E.enc) hx
    (by rw [E.length_flatMap]) ?_ (E.one_flatMap news) h63 hb hbase ?_
  · intro j u hj
    obtain ⟨k', r, y, rfl, hy, hu⟩ := flat_at E news j u hj
    obtain ⟨b', off', hA, _, hc⟩ := hr (by have := (List.getElem?_eq_some_iff.1 hy).1; omega)
    injection hA with hA
    subst hA
    rw [add_plain, ← Nat.add_assoc]
    exact hc k' y hy r u hu
  · intro v' w' h1 h2 _
    obtain ⟨A2, c2, rfl⟩ : ∃ A2 c2, v' = .slice A2 (l.length + news.length) c2 := by
      rcases h1.2 with ⟨hv, h0⟩ | ⟨g, cap, _, rfl, _⟩
      · exact ⟨none, 0, by rw [hv, h0]⟩
      · exact ⟨_, cap, rfl⟩
    refine k A2 c2 w' ?_ ⟨h2.os, h2.tape, h2.output, h2.size, fun i hi => h2.block i (by omega) ?_⟩
    · unfold OwnL
      rw [List.length_append, List.flatMap_append]
      exact h1
    · intro hne
      cases A with
      | none => simp [Value.ownBlock] at hne
      | some g' =>
        have := (OwnL.lt hown g' rfl).1
        simp [Value.ownBlock] at hne
        omega
end

theorem OwnL.le_cap {α : Type} {E : ElemT α} {w : World} {base : Nat} {e : TypeId} {A : Option Addr} {c : Nat} {l : List α} (h : OwnL E w base e A c l) : l.length ≤ c := by
  obtain ⟨_, h2⟩ := h
  rcases h2 with ⟨hv, h0⟩ | ⟨g, cap, cur, hv, _, _, hnc, _⟩
  · omega
  · injection hv with _ _ hc
    omega

/-- The head of an own row. -/
theorem OwnL.take {α : Type} {E : ElemT α} {w : World} {base : Nat} {e : TypeId} {A : Option Addr} {c : Nat} {l : List α} (h : OwnL E w base e A c l) (i : Nat) (hi : i ≤ l.length) : OwnL E w base e A c (l.take i) := by
  obtain ⟨h1, h2⟩ := h
  have hli : (l.take i).length = i := by rw [List.length_take]; omega
  have hfl : (l.take i).flatMap E.enc = (l.flatMap E.enc).take (i * E.size) := by
    have : l.flatMap E.enc = (l.take i).flatMap E.enc ++ (l.drop i).flatMap E.enc := by rw [← List.flatMap_append, List.take_append_drop]
    rw [this, List.take_left' (by rw [E.length_flatMap, hli])]
  refine ⟨by rw [E.length_flatMap], ?_⟩
  rcases h2 with ⟨hv, h0⟩ | ⟨g, cap, cur, hv, hg, hh, hnc, hcm, hcs, hcur⟩
  · injection hv with hA hl hc
    exact .inl ⟨by rw [hA, hc, hli]; congr 1; omega, by omega⟩
  · injection hv with hA hl hc
    refine .inr ⟨g, cap, cur, by rw [hA, hc], hg, hh, by omega, hcm, hcs, ?_⟩
    rw [hli, hfl, ← hcur, List.take_take]
    congr 1
    rw [Nat.min_eq_left]
    exact Nat.mul_le_mul_right _ hi

theorem row_take {w : World} {base : Nat} {e : TypeId} {size : Nat} {A : Option Addr} {n c : Nat} {xs : List Value} (h : w.ownsRow base e size (.slice A n c) n xs) (i : Nat) (hi : i ≤ n) : w.ownsRow base e size (.slice A i c) i (xs.take (i * size)) := by
  obtain ⟨h1, h2⟩ := h
  have him : i * size ≤ n * size := Nat.mul_le_mul_right _ hi
  refine ⟨by rw [List.length_take]; omega, ?_⟩
  rcases h2 with ⟨hv, h0⟩ | ⟨g, cap, cur, hv, hg, hh, hnc, hcm, hcs, hcur⟩
  · injection hv with hA hl hc
    exact .inl ⟨by rw [hA, hc]; congr 1; omega, by omega⟩
  · injection hv with hA hl hc
    refine .inr ⟨g, cap, cur, by rw [hA, hc], hg, hh, by omega, hcm, hcs, ?_⟩
    rw [← hcur, List.take_take, Nat.min_eq_left him]

theorem own_setCells {base : Nat} {e : TypeId} {size g n c : Nat} : ∀ (vs : List Value) (o : Nat) (w : World) (xs : List Value), w.ownsRow base e size (.slice (some ⟨g, 0, none⟩) n c) n xs →
    ∃ xs', (w.setCells g o vs).ownsRow base e size (.slice (some ⟨g, 0, none⟩) n c) n xs' ∧ xs'.take o = xs.take o
  | [], o, w, xs, h => ⟨xs, h, rfl⟩
  | v :: vs, o, w, xs, h => by
    obtain ⟨xs', h1, h2⟩ := own_setCells vs (o + 1) _ _ (World.ownsRow.stored h o v).1
    refine ⟨xs', h1, ?_⟩
    have h3 := congrArg (List.take o) h2
    rw [List.take_take, List.take_take, Nat.min_eq_left (by omega)] at h3
    rw [h3, List.take_set_of_le (Nat.le_refl o)]

theorem below_setCells {B : Nat} : ∀ (vs : List Value) (g o : Nat) (a w : World), B ≤ g → Below B a w → Below B a (w.setCells g o vs)
  | [], _, _, _, _, _, h => h
  | v :: vs, g, o, a, w, hg, h => below_setCells vs g (o + 1) a _ hg (h.setCell (p := ⟨g, o, none⟩) hg v)

theorem flat_F : ∀ (l : List (List UInt8 × List UInt8)) (j : Nat) (x : List UInt8 × List UInt8), (l.set j x).flatMap encF.enc = ((l.flatMap encF.enc).set (j * 2) (S x.1)).set (j * 2 + 1) (S x.2)
  | [], j, x => by simp
  | y :: l, 0, x => by simp [encF]
  | y :: l, j + 1, x => by
    have := flat_F l j x
    rw [List.set_cons_succ, List.flatMap_cons, this, List.flatMap_cons]
    have he : encF.enc y = [S y.1, S y.2] := rfl
    rw [he, show (j + 1) * 2 = j * 2 + 1 + 1 from by omega]
    simp

theorem OwnL.set_F {w : World} {base : Nat} {e : TypeId} {g c : Nat} {l : List (List UInt8 × List UInt8)} (h : OwnL encF w base e (some ⟨g, 0, none⟩) c l) (j : Nat) (x : List UInt8 × List UInt8) :
    OwnL encF ((w.setCell ⟨g, j * 2, none⟩ (S x.1)).setCell ⟨g, j * 2 + 1, none⟩ (S x.2)) base e (some ⟨g, 0, none⟩) c (l.set j x) := by
  have h1 := (World.ownsRow.stored (World.ownsRow.stored h (j * 2) (S x.1)).1 (j * 2 + 1) (S x.2)).1
  unfold OwnL
  rw [flat_F, List.length_set]
  exact h1

theorem OwnL.get_F {w : World} {base : Nat} {e : TypeId} {g c j : Nat} {l : List (List UInt8 × List UInt8)} {x : List UInt8 × List UInt8} (h : OwnL encF w base e (some ⟨g, 0, none⟩) c l) (hx : l[j]? = some x) :
    w.cell? ⟨g, j * 2, none⟩ = some (S x.1) ∧ w.cell? ⟨g, j * 2 + 1, none⟩ = some (S x.2) := by
  obtain ⟨g', off', hA', _, hc0, hc1⟩ := h.read.at_F hx
  injection hA' with hA'
  injection hA' with e1 e2
  subst e1 e2
  rw [Nat.zero_add] at hc0 hc1
  exact ⟨hc0, hc1⟩

/-- 'clear(s)' at elements of two cells. -/
theorem run_clear2 {P : Program} (w : World) (t e ty : TypeId) (z : Value) (u1 u2 : Value) (ht : P.underlying t = some (.slice e)) (hv : ∀ w, (zeroValue e).run P w = .ok z w) (hz : z.cells = #[u1, u2]) (h1 : u1.oneCell' = true) (h2 : u2.oneCell' = true) (b o n c : Nat) (hn : 0 < n)
    (hc : ∀ j, j < n * 2 → (w.cell? ⟨b, o + j, none⟩).isSome = true) (hf : ∀ j, j < n * 2 → w.frozen? ⟨b, o + j, none⟩ = false) :
    ∃ vs, (Builtin.clear_ #[t] ty #[.slice (some ⟨b, o, none⟩) n c]).run P w = .ok (.tuple #[]) (w.setCells b o vs) := by
  refine ⟨(Builtin.zeroCells z.cells n).toList, ?_⟩
  have hl : (Builtin.zeroCells z.cells n).toList.length = n * 2 := by rw [hz]; simp [Builtin.zeroCells]
  have hst := run_storeCells_cells (P := P) b o (Builtin.zeroCells z.cells n).toList 0 w (by rw [hl]; simpa using hc) (by rw [hl]; simpa using hf) (by
    intro v hv'
    rw [hz] at hv'
    simp only [Builtin.zeroCells, Array.mem_toList_iff] at hv'
    obtain ⟨i, _, rfl⟩ := Array.mem_map.1 hv'
    rcases Nat.mod_two_eq_zero_or_one i with h | h
    · simp [h, h1]
    · simp [h, h2])
  simp only [Nat.add_zero] at hst
  obtain ⟨m, rfl⟩ : ∃ m, n = m + 1 := ⟨n - 1, by omega⟩
  simp [Builtin.clear_, run_underlying ht, hv, hst]

/-- The same at a step of a region that draws. -/
theorem step_app_sl {P : Program} {w : World} {ops : Array Oper} {o : Oper} {a : Act} {K : Act → World → Prop} {Q : Exit → Act → World → Prop} {Z : Prop} {t e : TypeId} {bytes : Nat} {α : Type} {base c : Nat} {A : Option Addr} {l : List α}
    (E : ElemT α) (T : SlT P t e E.size bytes) (news : List α) (hgd : o.guard = none) (s x : Operand)
    (ho : o.op = .call { callee := .builtin .append, args := #[s, x], argTypes := #[t, t] })
    (hs : a.eval s = .slice A l.length c) (hown : OwnL E w base e A c l) {B c' : Nat} {ad : Addr} (hx : a.eval x = .slice (some ad) news.length c') (hr : ReadL E w B (some ad) news)
    (hb : (l.length + news.length) * bytes ≤ 140737488355328) (h63 : l.length + news.length ≤ maxLen) (hbase : base ≤ w.heap.size)
    (k : ∀ A2 c2 w', OwnL E w' base e A2 c2 (l ++ news) → Below base w w' → K (a.put o.dst (.slice A2 (l.length + news.length) c2)) w') :
    if Region.wanted o (yielded ops a.tmps) = true then Oper.wp P o a w K Q else Z := by
  have hw : Region.wanted o (yielded ops a.tmps) = true := by simp [Region.wanted, hgd]
  rw [if_pos hw]
  obtain ⟨i, z, hi, hz, hz1, hz2, hz3⟩ := T.info
  refine wp_append_own w s x t ho base e i z E.size bytes T.ht hi hz hz1 hz2 hz3 E.pos (.slice A l.length c) l.length (l.flatMap E.enc) hs hown ad news.length c' (news.flatMap E.enc) hx
    (by rw [E.length_flatMap]) ?_ (E.one_flatMap news) h63 hb hbase ?_
  · intro j u hj
    obtain ⟨k', r, y, rfl, hy, hu⟩ := flat_at E news j u hj
    obtain ⟨b', off', hA, _, hc⟩ := hr (by have := (List.getElem?_eq_some_iff.1 hy).1; omega)
    injection hA with hA
    subst hA
    rw [add_plain, ← Nat.add_assoc]
    exact hc k' y hy r u hu
  · intro v' w' h1 h2 _
    obtain ⟨A2, c2, rfl⟩ : ∃ A2 c2, v' = .slice A2 (l.length + news.length) c2 := by
      rcases h1.2 with ⟨hv, h0⟩ | ⟨g, cap, _, rfl, _⟩
      · exact ⟨none, 0, by rw [hv, h0]⟩
      · exact ⟨_, cap, rfl⟩
    refine k A2 c2 w' ?_ ⟨h2.os, h2.tape, h2.output, h2.size, fun i hi => h2.block i (by omega) ?_⟩
    · unfold OwnL
      rw [List.length_append, List.flatMap_append]
      exact h1
    · intro hne
      cases A with
      | none => simp [Value.ownBlock] at hne
      | some g' =>
        have := (OwnL.lt hown g' rfl).1
        simp [Value.ownBlock] at hne
        omega

theorem run_append_none {P : Program} (w : World) (t ty e : TypeId) (i : TypeInfo) (ht : P.underlying t = some (.slice e)) (hi : P.info? e = some i) (A : Option Addr) (n c c' : Nat) (hnc : n ≤ c) :
    (Builtin.append_ #[t, t] ty #[.slice A n c, .slice none 0 c']).run P w = .ok (.slice A n c) w := by
  cases A with
  | none => simp [Builtin.append_, run_underlying ht, sizeOf, typeInfo, hi, Builtin.lenOf, run_firstCells_none, hnc]
  | some a => simp [Builtin.append_, run_underlying ht, sizeOf, typeInfo, hi, Builtin.lenOf, run_firstCells_none, hnc, storeCells]

/-- .. whether xs is nil or not. -/
theorem step_app_any {P : Program} {w : World} {ops : Array Oper} {o : Oper} {a : Act} {K : Act → World → Prop} {Q : Exit → Act → World → Prop} {Z : Prop} {t e : TypeId} {bytes : Nat} {α : Type} {base c : Nat} {A : Option Addr} {l : List α}
    (E : ElemT α) (T : SlT P t e E.size bytes) (news : List α) (hgd : o.guard = none) (s x : Operand)
    (ho : o.op = .call { callee := .builtin .append, args := #[s, x], argTypes := #[t, t] })
    (hs : a.eval s = .slice A l.length c) (hown : OwnL E w base e A c l) {B c' : Nat} {A' : Option Addr} (hx : a.eval x = .slice A' news.length c') (hr : ReadL E w B A' news)
    (hb : (l.length + news.length) * bytes ≤ 140737488355328) (h63 : l.length + news.length ≤ maxLen) (hbase : base ≤ w.heap.size)
    (k : ∀ A2 c2 w', OwnL E w' base e A2 c2 (l ++ news) → Below base w w' → K (a.put o.dst (.slice A2 (l.length + news.length) c2)) w') :
    if Region.wanted o (yielded ops a.tmps) = true then Oper.wp P o a w K Q else Z := by
  cases A' with
  | some ad => exact step_app_sl E T news hgd s x ho hs hown hx hr hb h63 hbase k
  | none =>
    have h0 : news = [] := by
      cases news with
      | nil => rfl
      | cons f l => obtain ⟨_, _, h, _⟩ := hr (by simp); cases h
    subst h0
    have hw : Region.wanted o (yielded ops a.tmps) = true := by simp [Region.wanted, hgd]
    rw [if_pos hw]
    obtain ⟨i, z, hi, hz, hz1, hz2, hz3⟩ := T.info
    have hrun := run_append_none w t o.type e i T.ht hi A l.length c c' hown.le_cap
    have hk := k A c w (by simpa using hown) (Below.refl _ _)
    unfold Oper.wp execOp
    simp only [ho, resolve, invoke, builtin, Sem.run_bind, Sem.run_pure, Result.andThen_ok, List.map_toArray, List.map_cons, List.map_nil, hs, hx, List.length_nil, hrun]
    exact hk
end Go.Larder
end

/- Chg -/
section
namespace Go.Larder
open Go.RowKit
set_option linter.unusedVariables false
set_option linter.unusedSimpArgs false
structure SameBut (B : Nat → Prop) (w w' : World) : Prop where
  os : w'.os = w.os
  tape : w'.tape = w.tape
  output : w'.output = w.output
  size : w.heap.size ≤ w'.heap.size
  block : ∀ j, j < w.heap.size → ¬ B j → w'.heap[j]? = w.heap[j]?
variable {B B' : Nat → Prop} {w w' w'' : World}
theorem SameBut.refl (w : World) : SameBut B w w := ⟨rfl, rfl, rfl, Nat.le_refl _, fun _ _ _ => rfl⟩
theorem SameBut.mono (h : SameBut B w w') (hB : ∀ j, j < w.heap.size → B j → B' j) : SameBut B' w w' := ⟨h.os, h.tape, h.output, h.size, fun j hj hn => h.block j hj fun hb => hn (hB j hj hb)⟩
theorem SameBut.trans (h : SameBut B w w') (h2 : SameBut B' w' w'') (hB : ∀ j, j < w.heap.size → B' j → B j) : SameBut B w w'' :=
  ⟨h2.os.trans h.os, h2.tape.trans h.tape, h2.output.trans h.output, Nat.le_trans h.size h2.size, fun j hj hn => (h2.block j (Nat.lt_of_lt_of_le hj h.size) fun hb => hn (hB j hj hb)).trans (h.block j hj hn)⟩
theorem SameBut.setCell (h : SameBut B w w') (p : Addr) (v : Value) (hp : p.block < w.heap.size → B p.block) : SameBut B w (w'.setCell p v) :=
  ⟨h.os, h.tape, h.output, by simpa using h.size, fun j hj hn => (heap_setCell_other _ _ _ _ (by rintro rfl; exact hn (hp hj))).trans (h.block j hj hn)⟩
theorem SameBut.alloc (h : SameBut B w w') (o : Obj) : SameBut B w (w'.alloc o) :=
  ⟨h.os, h.tape, h.output, Nat.le_trans h.size (by simp), fun j hj hn => (Below.heap_alloc _ _ _ (Nat.lt_of_lt_of_le hj h.size)).trans (h.block j hj hn)⟩
theorem SameBut.drew (h : SameBut B w w') : SameBut B w w'.drew := ⟨h.os, h.tape, h.output, h.size, h.block⟩
theorem SameBut.drew' (h : SameBut B w.drew w') : SameBut B w w' := ⟨h.os, h.tape, h.output, h.size, h.block⟩
theorem SameBut.put (h : SameBut B w w') (r : Nat) (o : Obj) (hr : r < w.heap.size → B r) : SameBut B w (w'.putObj r o) :=
  ⟨h.os, h.tape, h.output, by simpa using h.size, fun j hj hn => (World.putObj_heap_other (by rintro rfl; exact hn (hr hj))).trans (h.block j hj hn)⟩
theorem SameBut.below {B0 : Nat} (h : SameBut B w w') (h2 : Below B0 w' w'') (hB : ∀ j, j < w.heap.size → B0 ≤ j → B j) : SameBut B w w'' :=
  ⟨h2.os.trans h.os, h2.tape.trans h.tape, h2.output.trans h.output, Nat.le_trans h.size h2.size, fun j hj hn => (h2.block j (Nat.lt_of_not_le fun hb => hn (hB j hj hb))).trans (h.block j hj hn)⟩
theorem SameBut.keep (h : SameBut B w w') (h2 : Below w'.heap.size w' w'') : SameBut B w w'' := h.below h2 fun j hj hb => absurd hb (by have := h.size; omega)
theorem SameBut.grown {row : Option Nat} (h : SameBut B w w') (h2 : w'.grownBy w'' row) (hB : ∀ j, j < w.heap.size → row = some j → B j) : SameBut B w w'' :=
  ⟨h2.os.trans h.os, h2.tape.trans h.tape, h2.output.trans h.output, Nat.le_trans h.size h2.size, fun j hj hn => (h2.block j (Nat.lt_of_lt_of_le hj h.size) fun hb => hn (hB j hj hb.symm)).trans (h.block j hj hn)⟩
theorem SameBut.toBelow {N : Nat} (h : SameBut B w w') (hN : N ≤ w.heap.size) (hB : ∀ j, j < N → ¬ B j) : Below N w w' := ⟨h.os, h.tape, h.output, h.size, fun j hj => h.block j (by omega) (hB j hj)⟩
theorem Below.same {N : Nat} (h : Below N w w') : SameBut (fun j => N ≤ j) w w' := ⟨h.os, h.tape, h.output, h.size, fun j hj hn => h.block j (by omega)⟩
theorem SameBut.box {g : Nat} {t : TypeId} {cs : List Value} (h : SameBut B w w') (hb : BoxAt w g t cs) (hg : ¬ B g) : BoxAt w' g t cs := (h.block g hb.lt hg).trans hb
theorem SameBut.own {α : Type} {E : ElemT α} {base c : Nat} {e : TypeId} {A : Option Addr} {l : List α} (h : SameBut B w w') (ho : OwnL E w base e A c l) (hn : ∀ a, A = some a → ¬ B a.block) : OwnL E w' base e A c l :=
  ho.keep fun a ha => h.block a.block (ho.lt a ha).2 (hn a ha)
/-- the block of a row -/
def blkOf (A : Option Addr) : Option Nat := A.map (·.block)
theorem OwnL.type_ {α : Type} {E : ElemT α} {base c : Nat} {e : TypeId} {A : Option Addr} {l : List α} (h : OwnL E w base e A c l) {a : Addr} (ha : A = some a) : ∃ cur, w.heap[a.block]? = some (.cells cur e (0, 0)) := by
  subst ha
  rcases h.2 with ⟨h0, _⟩ | ⟨g, cap, cur, h1, _, h2, _⟩
  · injection h0 with h0; cases h0
  · injection h1 with h1 _ _
    injection h1 with h1
    subst h1
    exact ⟨cur, h2⟩
/-- rows of two kinds of elements lie apart -/
theorem OwnL.apart {α β : Type} {E : ElemT α} {E' : ElemT β} {base c base' c' : Nat} {e e' : TypeId} {A A' : Option Addr} {l : List α} {l' : List β} (h : OwnL E w base e A c l) (h' : OwnL E' w base' e' A' c' l') (hne : e ≠ e') : ∀ a a', A = some a → A' = some a' → a.block ≠ a'.block := by
  intro a a' ha ha' hb
  obtain ⟨cur, h1⟩ := h.type_ ha
  obtain ⟨cur', h2⟩ := h'.type_ ha'
  rw [hb, h2] at h1
  injection h1 with h1
  injection h1 with _ h1 _
  exact hne h1.symm
theorem BoxAt.apart {α : Type} {E : ElemT α} {base c g : Nat} {e t : TypeId} {A : Option Addr} {l : List α} {cs : List Value} (h : OwnL E w base e A c l) (hb : BoxAt w g t cs) (hne : e ≠ t) : ∀ a, A = some a → a.block ≠ g := by
  rintro a ha rfl
  obtain ⟨cur, h1⟩ := h.type_ ha
  have h2 : w.heap[a.block]? = some (.cells cs.toArray t) := hb
  rw [h2] at h1
  injection h1 with h1
  injection h1 with _ h1 _
  exact hne h1.symm
theorem ownBlock_blk (A : Option Addr) (n c : Nat) : (Value.slice A n c).ownBlock = blkOf A := by cases A <;> rfl
theorem OwnL.alc {α : Type} {E : ElemT α} {base c : Nat} {e : TypeId} {A : Option Addr} {l : List α} (h : OwnL E w base e A c l) (o : Obj) : OwnL E (w.alloc o) base e A c l := h.keep fun a ha => Below.heap_alloc w _ _ (h.lt a ha).2
theorem OwnL.drw {α : Type} {E : ElemT α} {base c : Nat} {e : TypeId} {A : Option Addr} {l : List α} (h : OwnL E w base e A c l) : OwnL E w.drew base e A c l := h.keep fun a ha => rfl
theorem OwnL.grn {α : Type} {E : ElemT α} {base c : Nat} {e : TypeId} {A A' : Option Addr} {l : List α} (h : OwnL E w base e A c l) (hg : w.grownBy w' (blkOf A')) (hne : ∀ a a', A = some a → A' = some a' → a.block ≠ a'.block) : OwnL E w' base e A c l :=
  h.keep fun a ha => hg.block a.block (h.lt a ha).2 fun hb => by
    cases A' with
    | none => simp [blkOf] at hb
    | some a' => simp [blkOf] at hb; exact hne a a' ha rfl hb
theorem BoxAt.grn {g : Nat} {t : TypeId} {cs : List Value} {A : Option Addr} (h : BoxAt w g t cs) (hg : w.grownBy w' (blkOf A)) (hne : ∀ a, A = some a → a.block ≠ g) : BoxAt w' g t cs :=
  (hg.block g h.lt fun hb => by
    cases A with
    | none => simp [blkOf] at hb
    | some a' => simp [blkOf] at hb; exact hne a' rfl hb.symm).trans h
/-- append at a step of a region that draws: the row stays where it was or lies in a new block -/
theorem step_app_at {P : Program} {w : World} {ops : Array Oper} {o : Oper} {a : Act} {K : Act → World → Prop} {Q : Exit → Act → World → Prop} {Z : Prop} {t e : TypeId} {bytes : Nat} {α : Type} {base c : Nat} {A : Option Addr} {l : List α}
    (E : ElemT α) (T : SlT P t e E.size bytes) (news : List α) (hgd : o.guard = none) (s x : Operand)
    (ho : o.op = .call { callee := .builtin .append, args := #[s, x], argTypes := #[t, t] })
    (hs : a.eval s = .slice A l.length c) (hown : OwnL E w base e A c l) {B c' : Nat} {ad : Addr} (hx : a.eval x = .slice (some ad) news.length c') (hr : ReadL E w B (some ad) news)
    (hb : (l.length + news.length) * bytes ≤ 140737488355328) (h63 : l.length + news.length ≤ maxLen) (hbase : base ≤ w.heap.size)
    (k : ∀ A2 c2 w', OwnL E w' base e A2 c2 (l ++ news) → w.grownBy w' (blkOf A) → (blkOf A2 = blkOf A ∨ blkOf A2 = some w.heap.size) → Below base w w' → K (a.put o.dst (.slice A2 (l.length + news.length) c2)) w') :
    if Region.wanted o (yielded ops a.tmps) = true then Oper.wp P o a w K Q else Z := by
  have hw : Region.wanted o (yielded ops a.tmps) = true := by simp [Region.wanted, hgd]
  rw [if_pos hw]
  obtain ⟨i, z, hi, hz, hz1, hz2, hz3⟩ := T.info
  obtain ⟨v', w', hrun, h1, h2, _, h4⟩ := run_append_own_at (P := P) w base t o.type e i z E.size bytes T.ht hi hz hz1 hz2 hz3 E.pos (.slice A l.length c) l.length (l.flatMap E.enc) hown ad news.length c' (news.flatMap E.enc)
    (by rw [E.length_flatMap]) (by
      intro j u hj
      obtain ⟨k', r, y, rfl, hy, hu⟩ := flat_at E news j u hj
      obtain ⟨b', off', hA, _, hc⟩ := hr (by have := (List.getElem?_eq_some_iff.1 hy).1; omega)
      injection hA with hA
      subst hA
      have hadd : ∀ i, (⟨b', off', none⟩ : Addr).add i = ⟨b', off' + i, none⟩ := fun i => by unfold Addr.add; split <;> simp_all
      rw [hadd, ← Nat.add_assoc]
      exact hc k' y hy r u hu) (E.one_flatMap news) h63 hb hbase
  obtain ⟨A2, c2, rfl⟩ : ∃ A2 c2, v' = .slice A2 (l.length + news.length) c2 := by
    rcases h1.2 with ⟨hv, h0⟩ | ⟨g, cap, _, rfl, _⟩
    · exact ⟨none, 0, by rw [hv, h0]⟩
    · exact ⟨_, cap, rfl⟩
  rw [ownBlock_blk] at h2 h4
  rw [ownBlock_blk] at h4
  have hk := k A2 c2 w' (by unfold OwnL; rw [List.length_append, List.flatMap_append]; exact h1) h2 h4 ⟨h2.os, h2.tape, h2.output, h2.size, fun j hj => h2.block j (by omega) (by
    intro hne
    cases A with
    | none => simp [blkOf] at hne
    | some g' =>
      have := (OwnL.lt hown g' rfl).1
      simp [blkOf] at hne
      omega)⟩
  unfold Oper.wp execOp
  simp only [ho, resolve, invoke, builtin, Sem.run_bind, Sem.run_pure, Result.andThen_ok, List.map_toArray, List.map_cons, List.map_nil, hs, hx, hrun]
  exact hk
/-- .. whatever the lengths are written as, and where nothing is appended too -/
theorem step_app_atn {P : Program} {w : World} {ops : Array Oper} {o : Oper} {a : Act} {K : Act → World → Prop} {Q : Exit → Act → World → Prop} {Z : Prop} {t e : TypeId} {bytes : Nat} {α : Type} {base c n m : Nat} {A : Option Addr} {l : List α}
    (E : ElemT α) (T : SlT P t e E.size bytes) (news : List α) (hgd : o.guard = none) (s x : Operand)
    (ho : o.op = .call { callee := .builtin .append, args := #[s, x], argTypes := #[t, t] }) 
    (hs : a.eval s = .slice A n c) (hown : OwnL E w base e A c l) {B c' : Nat} {A' : Option Addr} (hx : a.eval x = .slice A' m c') (hr : ReadL E w B A' news) (hn : l.length = n) (hm : news.length = m)
    (hb : (l.length + news.length) * bytes ≤ 140737488355328) (h63 : l.length + news.length ≤ maxLen) (hbase : base ≤ w.heap.size)
    (k : ∀ A2 c2 w', OwnL E w' base e A2 c2 (l ++ news) → w.grownBy w' (blkOf A) → Below base w w' → K (a.put o.dst (.slice A2 (n + m) c2)) w') :
    if Region.wanted o (yielded ops a.tmps) = true then Oper.wp P o a w K Q else Z := by
  subst hn hm
  cases A' with
  | some ad => exact step_app_at E T news hgd s x ho hs hown hx hr hb h63 hbase fun A2 c2 w' h1 h2 _ h3 => k A2 c2 w' h1 h2 h3
  | none =>
    have h0 : news = [] := by
      cases news with
      | nil => rfl
      | cons f l => obtain ⟨_, _, h, _⟩ := hr (by simp); cases h
    subst h0
    have hw : Region.wanted o (yielded ops a.tmps) = true := by simp [Region.wanted, hgd]
    rw [if_pos hw]
    obtain ⟨i, z, hi, hz, hz1, hz2, hz3⟩ := T.info
    have hrun := run_append_none (P := P) w t o.type e i T.ht hi A l.length c c' hown.le_cap
    have hk := k A c w (by rw [List.append_nil]; exact hown) ⟨rfl, rfl, rfl, Nat.le_refl _, fun _ _ _ => rfl⟩ (Below.refl _ _)
    unfold Oper.wp execOp
    simp only [ho, resolve, invoke, builtin, Sem.run_bind, Sem.run_pure, Result.andThen_ok, List.map_toArray, List.map_cons, List.map_nil, hs, hx, List.length_nil, hrun]
    exact hk
/-- within a fence -/
theorem wpListIn_appG {F : Fence} {n : Nat} {P : Program} {w : World} {ops : Array Oper} {rest : List Oper} {o : Oper} {a : Act} {Q : Exit → Act → World → Prop} {t e : TypeId} {bytes : Nat} {α : Type} {base c : Nat} {A : Option Addr} {l : List α} (E : ElemT α) (T : SlT P t e E.size bytes) (news : List α) (hgd : o.guard = none) (s x : Operand)
    (ho : o.op = .call { callee := .builtin .append, args := #[s, x], argTypes := #[t, t] })
    (hs : a.eval s = .slice A l.length c) (hown : OwnL E w base e A c l) (cs : Array Value) (hcs : cs.toList = news.flatMap E.enc) (m : Nat) (hm : news.length = m + 1)
    (hx : a.eval x = .slice (some ⟨w.heap.size, 0, none⟩) (m + 1) (m + 1)) (hb : (l.length + (m + 1)) * bytes ≤ 140737488355328) (h63 : l.length + (m + 1) ≤ maxLen) (hbase : base ≤ w.heap.size)
    (k : ∀ g c' w', OwnL E w' base e (some ⟨g, 0, none⟩) c' (l ++ news) → w.grownBy w' (blkOf A) → Below base w w' → wpListIn F n P ops Q rest (a.put o.dst (.slice (some ⟨g, 0, none⟩) (l.length + (m + 1)) c')) w') :
    wpListIn F n P ops Q (o :: rest) a (w.alloc (.cells cs e)) := by
  obtain ⟨i, z, hi, hz, hz1, hz2, hz3⟩ := T.info
  have hlen : news.length = m + 1 := hm
  refine wpListIn_append_own _ hgd s x t ho base e i z E.size bytes T.ht hi hz hz1 hz2 hz3 E.pos (.slice A l.length c) l.length (l.flatMap E.enc) hs (World.ownsRow.alloc hown _) ⟨w.heap.size, 0, none⟩ (m + 1) (m + 1) (news.flatMap E.enc) hx
    (by rw [E.length_flatMap, hlen]) ?_ (E.one_flatMap news) h63 hb (by simp; omega) ?_
  · intro j u hj
    exact World.news_of_block (heap_alloc_new w (.cells cs e)) j u (by rw [hcs]; exact hj)
  · intro v' w' h1 h2 _
    obtain ⟨g, cap, rfl⟩ : ∃ g cap, v' = .slice (some ⟨g, 0, none⟩) (l.length + (m + 1)) cap := by
      rcases h1.2 with ⟨_, h0⟩ | ⟨g, cap, _, rfl, _⟩
      · omega
      · exact ⟨g, cap, rfl⟩
    have hl : (l ++ news).length = l.length + (m + 1) := by simp [hlen]
    have hg2 : w.grownBy w' (Value.slice A l.length c).ownBlock :=
      ⟨h2.os, h2.tape, h2.output, Nat.le_trans (by simp) h2.size, fun i hi hne => (h2.block i (by simp; omega) hne).trans (Below.heap_alloc w _ i hi)⟩
    refine k g cap w' ?_ (by rw [← ownBlock_blk A l.length c]; exact hg2) ⟨h2.os, h2.tape, h2.output, Nat.le_trans (by simp) h2.size, fun i hi => hg2.block i (by omega) ?_⟩
    · unfold OwnL
      rw [hl, List.flatMap_append]
      exact h1
    · intro hne
      cases A with
      | none => simp [Value.ownBlock] at hne
      | some g' =>
        have := (OwnL.lt hown g' rfl).1
        simp [Value.ownBlock] at hne
        omega
end Go.Larder
end

/- SpecCutOne -/
section
namespace Go.Larder
set_option linter.unusedVariables false
set_option linter.unusedSimpArgs false
def cut1 (c : UInt8) : List UInt8 → List UInt8 × List UInt8 × Bool
  | [] => ([], [], false)
  | b :: l => if b == c then ([], l, true) else (b :: (cut1 c l).1, (cut1 c l).2.1, (cut1 c l).2.2)
theorem cut1_none {c : UInt8} : ∀ {l : List UInt8}, Lib.indexByte l c = -1 → cut1 c l = (l, [], false)
  | [], _ => rfl
  | b :: l, h => by
    unfold Lib.indexByte at h
    unfold cut1
    cases hb : (b == c)
    · rw [hb] at h
      simp only [Bool.false_eq_true, if_false] at h ⊢
      have hi : Lib.indexByte l c = -1 := by
        have := Lib.indexByte_ge l c
        split at h
        · next h1 => simpa using h1
        · omega
      rw [cut1_none hi]
    · rw [hb] at h; simp at h
theorem cut1_at {c : UInt8} : ∀ {l : List UInt8} {k : Nat}, Lib.indexByte l c = (k : Int) → cut1 c l = (l.take k, l.drop (k + 1), true) ∧ k < l.length
  | [], k, h => by simp [Lib.indexByte] at h
  | b :: l, k, h => by
    unfold Lib.indexByte at h
    unfold cut1
    cases hb : (b == c)
    · rw [hb] at h
      simp only [Bool.false_eq_true, if_false] at h ⊢
      split at h
      · omega
      · next h1 =>
        have hge := Lib.indexByte_ge l c
        have hne : Lib.indexByte l c ≠ -1 := by simpa using h1
        obtain ⟨j, rfl⟩ : ∃ j, k = j + 1 := ⟨k - 1, by omega⟩
        obtain ⟨h2, h3⟩ := cut1_at (c := c) (l := l) (k := j) (by omega)
        rw [h2]
        exact ⟨by simp, by simp; omega⟩
    · rw [hb] at h
      simp only [if_true] at h ⊢
      obtain rfl : k = 0 := by omega
      exact ⟨by simp, by simp⟩
theorem ixb_cases (l : List UInt8) (c : UInt8) : Lib.indexByte l c = -1 ∨ ∃ k : Nat, Lib.indexByte l c = k := by
  have := Lib.indexByte_ge l c
  by_cases h : Lib.indexByte l c = -1
  · exact .inl h
  · exact .inr ⟨(Lib.indexByte l c).toNat, by omega⟩
theorem cut1_app {c : UInt8} (r : List UInt8) : ∀ {p : List UInt8}, (∀ x ∈ p, x ≠ c) → cut1 c (p ++ c :: r) = (p, r, true)
  | [], _ => by simp [cut1]
  | b :: p, h => by
    have hb : (b == c) = false := by simpa using h b (by simp)
    have ih := cut1_app (c := c) r (p := p) (fun x hx => h x (by simp [hx]))
    rw [List.cons_append]
    unfold cut1
    rw [hb, ih]
    rfl
theorem cut1_true {c : UInt8} : ∀ {l : List UInt8}, (cut1 c l).2.2 = true → l = (cut1 c l).1 ++ c :: (cut1 c l).2.1 ∧ ∀ x ∈ (cut1 c l).1, x ≠ c
  | [], h => by simp [cut1] at h
  | b :: l, h => by
    unfold cut1 at h ⊢
    cases hb : (b == c)
    · rw [hb] at h
      simp only [Bool.false_eq_true, if_false] at h ⊢
      obtain ⟨h1, h2⟩ := cut1_true h
      refine ⟨by rw [List.cons_append, ← h1], fun x hx => ?_⟩
      rcases List.mem_cons.1 hx with rfl | hx
      · simpa using hb
      · exact h2 x hx
    · simp only [if_true]
      have : b = c := by simpa using hb
      exact ⟨by simp [this], by simp⟩
theorem cut1_false {c : UInt8} : ∀ {l : List UInt8}, (cut1 c l).2.2 = false → cut1 c l = (l, [], false) ∧ ∀ x ∈ l, x ≠ c
  | [], _ => ⟨rfl, by simp⟩
  | b :: l, h => by
    unfold cut1 at h ⊢
    cases hb : (b == c)
    · rw [hb] at h
      simp only [Bool.false_eq_true, if_false] at h ⊢
      obtain ⟨h1, h2⟩ := cut1_false h
      rw [h1]
      refine ⟨rfl, fun x hx => ?_⟩
      rcases List.mem_cons.1 hx with rfl | hx
      · simpa using hb
      · exact h2 x hx
    · rw [hb] at h
      simp at h
theorem cut1_len (c : UInt8) : ∀ l : List UInt8, (cut1 c l).1.length + (cut1 c l).2.1.length ≤ l.length
  | [] => by simp [cut1]
  | b :: l => by
    have ih := cut1_len c l
    unfold cut1
    split <;> simp <;> omega
end Go.Larder
end

/- SpecSpl -/
section
namespace Go.Larder
set_option linter.unusedVariables false
set_option linter.unusedSimpArgs false

def spl (c : UInt8) : List UInt8 → List (List UInt8)
  | [] => [[]]
  | b :: l => if b == c then [] :: spl c l else match spl c l with
    | [] => [[b]]
    | p :: ps => (b :: p) :: ps
def jn (c : UInt8) : List (List UInt8) → List UInt8
  | [] => []
  | [p] => p
  | p :: q :: r => p ++ c :: jn c (q :: r)
theorem spl_some (c : UInt8) : ∀ s, ∃ p ps, spl c s = p :: ps
  | [] => ⟨_, _, rfl⟩
  | b :: l => by
    obtain ⟨p, ps, h⟩ := spl_some c l
    unfold spl
    rw [h]
    cases hb : (b == c)
    · exact ⟨b :: p, ps, by simp⟩
    · exact ⟨[], p :: ps, by simp⟩
theorem index_hitc (c : UInt8) (l : List UInt8) : Lib.index (c :: l) [c] = 0 := by
  unfold Lib.index
  simp [List.isPrefixOf]
theorem index_skipc (b c : UInt8) (l : List UInt8) (h : b ≠ c) : Lib.index (b :: l) [c] = if Lib.index l [c] == -1 then -1 else Lib.index l [c] + 1 := by
  conv => lhs; unfold Lib.index
  have : ([c] : List UInt8).isPrefixOf (b :: l) = false := by
    simp [List.isPrefixOf]
    exact fun e => h e.symm
  rw [this]
  rfl
theorem splitK_spl (c : UInt8) : ∀ s : List UInt8, Lib.splitK [c] 0 (s.count c) s = spl c s
  | [] => rfl
  | b :: l => by
    have ih := splitK_spl c l
    cases hb : (b == c)
    · have hbc : b ≠ c := by simpa using hb
      have hcnt : (b :: l).count c = l.count c := List.count_cons_of_ne hbc
      obtain ⟨p, ps, hs⟩ := spl_some c l
      have hspl : spl c (b :: l) = (b :: p) :: ps := by unfold spl; rw [hb, hs]; rfl
      rw [hcnt, hspl]
      rw [hs] at ih
      cases hk : l.count c with
      | zero =>
        rw [hk] at ih
        simp only [Lib.splitK] at ih ⊢
        injection ih with h1 h2
        rw [h1, h2]
      | succ k =>
        rw [hk] at ih
        unfold Lib.splitK at ih ⊢
        rw [index_skipc b c l hbc]
        cases hi : (Lib.index l [c] == -1)
        · rw [hi] at ih
          have hge := Lib.index_ge l [c]
          have hne : Lib.index l [c] ≠ -1 := by simpa using hi
          have e1 : ((Lib.index l [c] + 1 == -1)) = false := by simp; omega
          have e2 : (Lib.index l [c] + 1).toNat = (Lib.index l [c]).toNat + 1 := by omega
          simp only [Bool.false_eq_true, if_false, e1, e2] at ih ⊢
          injection ih with h1 h2
          rw [← h1, ← h2]
          simp [Nat.add_right_comm]
        · rw [hi] at ih
          simp only [if_true] at ih
          injection ih with h1 h2
          subst h1 h2
          simp
    · have hbc : b = c := by simpa using hb
      subst hbc
      have hcnt : (b :: l).count b = l.count b + 1 := List.count_cons_self
      rw [hcnt]
      unfold Lib.splitK
      rw [index_hitc]
      simp [spl, ih]
theorem split_spl (c : UInt8) (s : List UInt8) : Lib.split s [c] = spl c s := by
  unfold Lib.split
  rw [Lib.count_one]
  exact splitK_spl c s
theorem jn_cons (c b : UInt8) (p : List UInt8) (ps : List (List UInt8)) : jn c ((b :: p) :: ps) = b :: jn c (p :: ps) := by
  cases ps <;> simp [jn]
theorem jn_spl (c : UInt8) : ∀ s, jn c (spl c s) = s
  | [] => rfl
  | b :: l => by
    have ih := jn_spl c l
    obtain ⟨p, ps, hs⟩ := spl_some c l
    rw [hs] at ih
    unfold spl
    rw [hs]
    cases hb : (b == c)
    · simp only [Bool.false_eq_true, if_false]
      rw [jn_cons, ih]
    · have hbc : b = c := by simpa using hb
      subst hbc
      simp [jn, ih]
theorem spl_free {c : UInt8} : ∀ {p : List UInt8}, (∀ x ∈ p, x ≠ c) → spl c p = [p]
  | [], _ => rfl
  | b :: p, h => by
    unfold spl
    have hb : (b == c) = false := by simpa using h b (by simp)
    rw [spl_free (fun x hx => h x (by simp [hx])), hb]
    rfl
theorem spl_app {c : UInt8} (s : List UInt8) : ∀ {p : List UInt8}, (∀ x ∈ p, x ≠ c) → spl c (p ++ c :: s) = p :: spl c s
  | [], _ => by simp [spl]
  | b :: p, h => by
    have hb : (b == c) = false := by simpa using h b (by simp)
    have ih := spl_app (c := c) s (p := p) (fun x hx => h x (by simp [hx]))
    rw [List.cons_append]
    conv => lhs; unfold spl
    rw [ih, hb]
    rfl
theorem spl_mem {c : UInt8} : ∀ {s p : List UInt8}, p ∈ spl c s → ∀ x ∈ p, x ≠ c
  | [], p, h, x, hx => by simp [spl] at h; subst h; simp at hx
  | b :: l, p, h, x, hx => by
    obtain ⟨q, qs, hs⟩ := spl_some c l
    unfold spl at h
    rw [hs] at h
    cases hb : (b == c)
    · rw [hb] at h
      simp only [Bool.false_eq_true, if_false] at h
      rcases List.mem_cons.1 h with rfl | h
      · rcases List.mem_cons.1 hx with rfl | hx
        · simpa using hb
        · exact spl_mem (s := l) (by rw [hs]; simp) x hx
      · exact spl_mem (s := l) (by rw [hs]; simp [h]) x hx
    · rw [hb] at h
      simp only [if_true] at h
      rcases List.mem_cons.1 h with rfl | h
      · simp at hx
      · exact spl_mem (s := l) (by rw [hs]; exact h) x hx
theorem spl_jn {c : UInt8} : ∀ {ps : List (List UInt8)}, ps ≠ [] → (∀ p ∈ ps, ∀ x ∈ p, x ≠ c) → spl c (jn c ps) = ps
  | [], h, _ => absurd rfl h
  | [p], _, h => spl_free (h p (by simp))
  | p :: q :: r, _, h => by
    unfold jn
    rw [spl_app _ (h p (by simp)), spl_jn (by simp) (fun y hy => h y (List.mem_cons_of_mem _ hy))]
theorem spl_len (c : UInt8) : ∀ s : List UInt8, (spl c s).length = s.count c + 1
  | [] => rfl
  | b :: l => by
    obtain ⟨p, ps, hs⟩ := spl_some c l
    have ih := spl_len c l
    rw [hs] at ih
    unfold spl
    rw [hs]
    cases hb : (b == c)
    · have hbc : b ≠ c := by simpa using hb
      rw [List.count_cons_of_ne hbc]
      simpa using ih
    · have hbc : b = c := by simpa using hb
      subst hbc
      rw [List.count_cons_self]
      simpa using ih
theorem jn_len (c : UInt8) : ∀ (ps : List (List UInt8)), ∀ p ∈ ps, p.length ≤ (jn c ps).length
  | [], p, h => by simp at h
  | [q], p, h => by simp at h; subst h; simp [jn]
  | q :: r :: ps, p, h => by
    have ih := jn_len c (r :: ps)
    unfold jn
    rcases List.mem_cons.1 h with rfl | h
    · simp
    · have := ih p h
      simp at this ⊢
      omega
theorem spl_mem_len {c : UInt8} {s p : List UInt8} (h : p ∈ spl c s) : p.length ≤ s.length := by
  have := jn_len c (spl c s) p h
  rwa [jn_spl] at this
end Go.Larder
end

/- AppG -/
section
namespace Go.Larder
open Go.RowKit
set_option linter.unusedSimpArgs false
set_option linter.unusedVariables false
theorem wpList_app_full {P : Program} {w : World} {ops : Array Oper} {rest : List Oper} {o : Oper} {a : Act} {Q : Exit → Act → World → Prop} {t e : TypeId} {bytes c : Nat} {α : Type} {l : List α}
    (E : ElemT α) (T : SlT P t e E.size bytes) (news : List α) (hgd : o.guard = none) (s x : Operand)
    (ho : o.op = .call { callee := .builtin .append, args := #[s, x], argTypes := #[t, t] }) (b off : Nat)
    (hs : a.eval s = .slice (some ⟨b, off, none⟩) l.length c) (hr : ReadL E w w.heap.size (some ⟨b, off, none⟩) l) (cs : Array Value) (hcs : cs.toList = news.flatMap E.enc) (m : Nat) (hm : news.length = m + 1)
    (hx : a.eval x = .slice (some ⟨w.heap.size, 0, none⟩) (m + 1) (m + 1)) (hfull : c < l.length + (m + 1)) (hb : (l.length + (m + 1)) * bytes ≤ 140737488355328) (h63 : l.length + (m + 1) ≤ maxLen)
    (k : ∀ g c' w', OwnL E w' (w.heap.size + 1) e (some ⟨g, 0, none⟩) c' (l ++ news) → Below w.heap.size w w' → wpList P ops Q rest (a.put o.dst (.slice (some ⟨g, 0, none⟩) (l.length + (m + 1)) c')) w') :
    wpList P ops Q (o :: rest) a (w.alloc (.cells cs e)) := by
  obtain ⟨i, z, hi, hz, hz1, hz2, hz3⟩ := T.info
  have hr2 := hr.alloc (Nat.le_refl _) (.cells cs e)
  refine wpList_append_grows _ hgd s x t ho e i z E.size bytes T.ht hi hz hz1 hz2 hz3 E.pos (some ⟨b, off, none⟩) l.length c (l.flatMap E.enc) hs (fun h => by cases h) (E.length_flatMap l) ?_
    ⟨w.heap.size, 0, none⟩ (m + 1) (m + 1) (news.flatMap E.enc) hx (by rw [E.length_flatMap, hm]) ?_ (E.one_flatMap news) hfull h63 hb ?_
  · intro ad hA j u hj
    injection hA with hA
    subst hA
    obtain ⟨k, r, y, rfl, hy, hu⟩ := flat_at E l j u hj
    obtain ⟨b', off', hA2, _, hc⟩ := hr2.at_ hy
    injection hA2 with hA2
    injection hA2 with h1 h2
    subst h1 h2
    have hadd : ∀ i, (⟨b, off, none⟩ : Addr).add i = ⟨b, off + i, none⟩ := fun i => by unfold Addr.add; split <;> simp_all
    rw [hadd, ← Nat.add_assoc]
    exact hc r u hu
  · intro j u hj
    exact World.news_of_block (heap_alloc_new w (.cells cs e)) j u (by rw [hcs]; exact hj)
  · intro v' w' h1 h2
    have hsz : (w.alloc (.cells cs e)).heap.size = w.heap.size + 1 := by simp
    obtain ⟨g, cap, rfl⟩ : ∃ g cap, v' = .slice (some ⟨g, 0, none⟩) (l.length + (m + 1)) cap := by
      rcases h1.2 with ⟨_, h0⟩ | ⟨g, cap, _, rfl, _⟩
      · omega
      · exact ⟨g, cap, rfl⟩
    have hl : (l ++ news).length = l.length + (m + 1) := by simp [hm]
    refine k g cap w' ?_ ⟨h2.os, h2.tape, h2.output, Nat.le_trans (by simp) h2.size, fun i hi => (h2.block i (by simp; omega) (by simp)).trans (Below.heap_alloc w _ i hi)⟩
    unfold OwnL
    rw [hl, List.flatMap_append, ← hsz]
    exact h1

theorem wpList_app_any {P : Program} {w : World} {ops : Array Oper} {rest : List Oper} {o : Oper} {a : Act} {Q : Exit → Act → World → Prop} {t e : TypeId} {bytes : Nat} {α : Type} {base c : Nat} {A : Option Addr} {l : List α}
    (E : ElemT α) (T : SlT P t e E.size bytes) (news : List α) (hgd : o.guard = none) (s x : Operand)
    (ho : o.op = .call { callee := .builtin .append, args := #[s, x], argTypes := #[t, t] })
    (hs : a.eval s = .slice A l.length c) (hown : OwnL E w base e A c l) {B c' : Nat} {A' : Option Addr} (hx : a.eval x = .slice A' news.length c') (hr : ReadL E w B A' news)
    (hb : (l.length + news.length) * bytes ≤ 140737488355328) (h63 : l.length + news.length ≤ maxLen) (hbase : base ≤ w.heap.size)
    (k : ∀ A2 c2 w', OwnL E w' base e A2 c2 (l ++ news) → Below base w w' → wpList P ops Q rest (a.put o.dst (.slice A2 (l.length + news.length) c2)) w') :
    wpList P ops Q (o :: rest) a w := by
  cases A' with
  | some ad => exact wpList_app_sl E T news hgd s x ho hs hown hx hr hb h63 hbase k
  | none =>
    have h0 : news = [] := by
      cases news with
      | nil => rfl
      | cons f l => obtain ⟨_, _, h, _⟩ := hr (by simp); cases h
    subst h0
    obtain ⟨i, z, hi, hz, hz1, hz2, hz3⟩ := T.info
    have hrun := run_append_none w t o.type e i T.ht hi A l.length c c' hown.le_cap
    have hk := k A c w (by simpa using hown) (Below.refl _ _)
    refine wpList_plain hgd fun K hK => ?_
    have hk2 := hK _ _ hk
    unfold Oper.wp execOp
    simp only [ho, resolve, invoke, builtin, Sem.run_bind, Sem.run_pure, Result.andThen_ok, List.map_toArray, List.map_cons, List.map_nil, hs, hx, List.length_nil, hrun]
    exact hk2
end Go.Larder
end

/- SpecLow -/
section
namespace Go.Larder
open Go.RowKit
set_option linter.unusedVariables false
set_option linter.unusedSimpArgs false

def lowB (b : UInt8) : UInt8 := if 65 ≤ b.toNat ∧ b.toNat ≤ 90 then b + 32 else b
def lowL (l : List UInt8) : List UInt8 := l.map lowB
theorem lowL_len (l : List UInt8) : (lowL l).length = l.length := List.length_map _
theorem lowB_in {b : UInt8} (h1 : 65 ≤ b.toNat) (h2 : b.toNat ≤ 90) : (lowB b).toNat = b.toNat + 32 := by
  unfold lowB
  rw [if_pos ⟨h1, h2⟩, UInt8.toNat_add]
  simp; omega
theorem lowB_out {b : UInt8} (h : ¬ (65 ≤ b.toNat ∧ b.toNat ≤ 90)) : lowB b = b := if_neg h

theorem set_same {α : Type} {l : List α} {j : Nat} {x : α} (h : l[j]? = some x) : l.set j x = l := by
  obtain ⟨h1, h2⟩ := List.getElem?_eq_some_iff.1 h
  subst h2
  exact List.set_getElem_self h1

/-- A row of bytes in new memory that may be read and written. -/
def RowB (w : World) (g : Nat) (l : List UInt8) : Prop := g < w.heap.size ∧ ∀ j b, l[j]? = some b → w.cell? ⟨g, j, none⟩ = some (.int .u8 b.toNat) ∧ w.frozen? ⟨g, j, none⟩ = false

theorem RowB.new (w : World) (l : List UInt8) (c : Nat) (e : TypeId) :
    RowB (w.drew.alloc (.cells (bytesRow ⟨l.toArray⟩ c) e ((bytesRow ⟨l.toArray⟩ c).size, (bytesRow ⟨l.toArray⟩ c).size + 1))) w.heap.size l := by
  have hh : (w.drew.alloc (.cells (bytesRow ⟨l.toArray⟩ c) e ((bytesRow ⟨l.toArray⟩ c).size, (bytesRow ⟨l.toArray⟩ c).size + 1))).heap[w.heap.size]? = some (.cells (bytesRow ⟨l.toArray⟩ c) e ((bytesRow ⟨l.toArray⟩ c).size, (bytesRow ⟨l.toArray⟩ c).size + 1)) := by
    show (w.heap.push _)[w.heap.size]? = _
    simp
  refine ⟨by show w.heap.size < (w.heap.push _).size; simp, fun j b hb => ?_⟩
  have hj : j < l.length := (List.getElem?_eq_some_iff.1 hb).1
  have hlen : l.length ≤ (bytesRow ⟨l.toArray⟩ c).size := by unfold bytesRow; simp
  constructor
  · unfold World.cell?
    rw [hh]
    have : (bytesRow ⟨l.toArray⟩ c)[j]? = some (.int .u8 b.toNat) := by
      unfold bytesRow
      rw [Array.getElem?_append_left (by simpa using hj)]
      simp [hb]
    simpa using this
  · unfold World.frozen?
    rw [hh]
    simp; omega

theorem RowB.read {w : World} {g : Nat} {l : List UInt8} (h : RowB w g l) : ReadL encB w (g + 1) (some ⟨g, 0, none⟩) l := fun _ =>
  ⟨g, 0, rfl, by omega, fun k a ha j u hu => by
    cases j with
    | zero =>
      have hu' : Value.int .u8 a.toNat = u := by simpa [encB] using hu
      rw [← hu']
      simpa [encB] using (h.2 k a ha).1
    | succ j => simp [encB] at hu⟩

theorem RowB.set {w : World} {g : Nat} {l : List UInt8} (h : RowB w g l) (j : Nat) (x : UInt8) : RowB (w.setCell ⟨g, j, none⟩ (.int .u8 x.toNat)) g (l.set j x) := by
  refine ⟨by simpa using h.1, fun k b hb => ?_⟩
  rw [World.frozen?_setCell]
  rw [List.getElem?_set] at hb
  split at hb
  · rename_i hjk
    subst hjk
    split at hb
    · rename_i hlt
      injection hb with hb
      subst hb
      have h0 := h.2 j _ (List.getElem?_eq_getElem hlt)
      exact ⟨World.cell?_setCell_same _ _ _ h0.1, h0.2⟩
    · cases hb
  · rename_i hjk
    have h0 := h.2 k b hb
    exact ⟨by rw [World.cell?_setCell_other _ _ _ _ (by simp only [ne_eq, Addr.mk.injEq, and_true, true_and]; exact hjk)]; exact h0.1, h0.2⟩
end Go.Larder
end

/- SpecIs -/
section
namespace Go.Larder
open Go.RowKit
set_option linter.unusedVariables false
set_option linter.unusedSimpArgs false

def signsL : List UInt8 := [33, 35, 36, 37, 38, 39, 42, 43, 45, 46, 94, 95, 96, 124, 126]
def tokTab : List UInt8 := [97, 98, 99, 100, 101, 102, 103, 104, 105, 106, 107, 108, 109, 110, 111, 112, 113, 114, 115, 116, 117, 118, 119, 120, 121, 122, 65, 66, 67, 68, 69, 70, 71, 72, 73, 74, 75, 76, 77, 78, 79, 80, 81, 82, 83, 84, 85, 86, 87, 88, 89, 90, 48, 49, 50, 51, 52, 53, 54, 55, 56, 57, 33, 35, 36, 37, 38, 39, 42, 43, 45, 46, 94, 95, 96, 124, 126]
def tensTab : List UInt8 := [48, 49, 50, 51, 52, 53, 54, 55, 56, 57]
def inTab (t : List UInt8) (c : UInt8) : Bool := decide (0 ≤ Lib.indexByte t c)
def tokB (c : UInt8) : Bool := inTab tokTab c
def isTok (l : List UInt8) : Bool := !l.isEmpty && l.all tokB

theorem tokB_nat : ∀ n : Fin 256, tokB (UInt8.ofNat n.val) = (decide (97 ≤ n.val ∧ n.val ≤ 122) || decide (65 ≤ n.val ∧ n.val ≤ 90) || decide (48 ≤ n.val ∧ n.val ≤ 57) || inTab signsL (UInt8.ofNat n.val)) := by decide +kernel
theorem tokB_eq (c : UInt8) : tokB c = (decide (97 ≤ c.toNat ∧ c.toNat ≤ 122) || decide (65 ≤ c.toNat ∧ c.toNat ≤ 90) || decide (48 ≤ c.toNat ∧ c.toNat ≤ 57) || inTab signsL c) := by
  have := tokB_nat ⟨c.toNat, c.toNat_lt⟩
  simpa using this
theorem tens_nat : ∀ n : Fin 256, inTab tensTab (UInt8.ofNat n.val) = decide (48 ≤ n.val ∧ n.val ≤ 57) := by decide +kernel
theorem tens_eq (c : UInt8) : inTab tensTab c = decide (48 ≤ c.toNat ∧ c.toNat ≤ 57) := by
  have := tens_nat ⟨c.toNat, c.toNat_lt⟩
  simpa using this
theorem all_step {p : UInt8 → Bool} {l : List UInt8} {k : Nat} {x : UInt8} (h : l[k]? = some x) (hp : (l.take k).all p = true) (hx : p x = true) : (l.take (k + 1)).all p = true := by
  rw [List.take_add_one, h]; simpa [hx] using hp
theorem all_bad {p : UInt8 → Bool} {l : List UInt8} {k : Nat} {x : UInt8} (h : l[k]? = some x) (hx : p x = false) : l.all p = false := by
  rw [List.all_eq_false]
  exact ⟨x, List.mem_of_getElem? h, by simp [hx]⟩
end Go.Larder
end

/- SpecTok -/
section
namespace Go.Larder
set_option linter.unusedVariables false
set_option linter.unusedSimpArgs false

def isB (c : UInt8) : Bool := (c.toNat : Int) == 32 || (c.toNat : Int) == 9
def isPl (c : UInt8) : Bool := (decide (32 ≤ (c.toNat : Int)) && decide ((c.toNat : Int) ≤ 126)) || (c.toNat : Int) == 9

def trimR (l : List UInt8) : List UInt8 := (l.reverse.dropWhile isB).reverse
def trim (l : List UInt8) : List UInt8 := trimR (l.dropWhile isB)

theorem trimR_snoc (l : List UInt8) (c : UInt8) : trimR (l ++ [c]) = if isB c then trimR l else l ++ [c] := by
  unfold trimR
  rw [List.reverse_append, List.reverse_singleton, List.singleton_append, List.dropWhile_cons]
  split <;> simp

def isQ (c : UInt8) : Bool := (c.toNat : Int) == 34
def isBS (c : UInt8) : Bool := (c.toNat : Int) == 92

/-- token.Unquote's loop. -/
def unq : List UInt8 → List UInt8 → Option (List UInt8)
  | [], acc => some acc
  | [c], acc => if isQ c || isBS c then none else if isPl c then some (acc ++ [c]) else none
  | c :: d :: r, acc => if isBS c then (if isPl d then unq r (acc ++ [d]) else none) else if isQ c then none else if isPl c then unq (d :: r) (acc ++ [c]) else none

def unqEnd : Option (List UInt8) → List UInt8 × Int
  | none => ([], 3)
  | some b => if 1000 < b.length then ([], 2) else (b, 0)

/-- token.Unquote of a :: (m ++ [b]). -/
def unqMid (a : UInt8) (m : List UInt8) (b : UInt8) : List UInt8 × Int :=
  if isQ a && isQ b then unqEnd (unq m []) else ([], 3)

/-- R.Unquote's loop. -/
def unqR : List UInt8 → Bool → List UInt8 → Option (List UInt8)
  | [], c, acc => if c then none else some acc
  | x :: r, true, acc => unqR r false (acc ++ [x])
  | x :: r, false, acc => if isBS x then unqR r true acc else if isQ x then none else unqR r false (acc ++ [x])

def unqMidR (a : UInt8) (m : List UInt8) (b : UInt8) : List UInt8 × Int :=
  if isQ a && isQ b && (a :: (m ++ [b])).all isPl then unqEnd (unqR m false []) else ([], 3)

theorem unqR_of_unq (m : List UInt8) (acc : List UInt8) : unq m acc = if m.all isPl then unqR m false acc else none := by
  fun_induction unq m acc with
  | case1 acc => simp [unqR]
  | case2 c acc h =>
    simp only [Bool.or_eq_true] at h
    rcases h with h | h
    · have : isBS c = false := by simp [isQ, isBS] at h ⊢; omega
      simp [unqR, h, this]
    · simp [unqR, h]
  | case3 c acc h h2 => simp at h; simp [unqR, h, h2]
  | case4 c acc h h2 => simp [h2]
  | case5 c d r acc h h2 ih =>
    have : isPl c = true := by simp [isBS, isPl] at h ⊢; omega
    simp [unqR, h, h2, this, ih]
  | case6 c d r acc h h2 => simp [h2]
  | case7 c d r acc h h2 => simp [unqR, h, h2]
  | case8 c d r acc h h2 h3 ih =>
    simp only [List.all_cons, Bool.and_eq_true] at ih ⊢
    simp [unqR, h, h2, h3, ih]
  | case9 c d r acc h h2 h3 => simp [h3]

theorem unqMid_eq (a : UInt8) (m : List UInt8) (b : UInt8) : unqMid a m b = unqMidR a m b := by
  unfold unqMid unqMidR
  rw [unqR_of_unq]
  have hq : ∀ c, isQ c = true → isPl c = true := fun c h => by simp [isQ, isPl] at h ⊢; omega
  cases ha : isQ a <;> cases hb : isQ b <;> simp [ha, hb]
  simp only [hq a ha, hq b hb, true_and, and_true]
  split <;> rfl
end Go.Larder
end

/- SpecCut -/
section
namespace Go.Larder
set_option linter.unusedVariables false
set_option linter.unusedSimpArgs false

/-! Trim, one blank at a time. -/
theorem trim_cons (b : UInt8) (l : List UInt8) (h : isB b = true) : trim (b :: l) = trim l := by
  unfold trim
  rw [List.dropWhile_cons, h]
  rfl
theorem trim_snoc (l : List UInt8) (b : UInt8) (h : isB b = true) : trim (l ++ [b]) = trim l := by
  unfold trim
  rw [List.dropWhile_append]
  split
  · rename_i he
    have : List.dropWhile isB l = [] := by simpa using he
    rw [this]
    simp [List.dropWhile_cons, h]
  · rw [trimR_snoc, h]; rfl
theorem trim_done (l : List UInt8) (h1 : ∀ b, l.head? = some b → isB b = false) (h2 : ∀ b, l.getLast? = some b → isB b = false) : trim l = l := by
  unfold trim
  have e : List.dropWhile isB l = l := by
    cases l with
    | nil => rfl
    | cons b l => rw [List.dropWhile_cons, h1 b rfl]; rfl
  rw [e]
  rcases nil_or_snoc l with rfl | ⟨m, b, rfl⟩
  · rfl
  · rw [trimR_snoc, h2 b (by simp)]; rfl

/-- token.cut. -/
def cutP (sg : UInt8) : List UInt8 → Bool → List UInt8 → List (List UInt8) → Option (List (List UInt8))
  | [], q, cur, acc => if q then none else some (acc ++ [trim cur])
  | [c], q, cur, acc =>
    if isQ c then cutP sg [] (!q) (cur ++ [c]) acc
    else if q && isBS c then none
    else if !q && (c.toNat : Int) == sg.toNat then cutP sg [] q [] (acc ++ [trim cur])
    else cutP sg [] q (cur ++ [c]) acc
  | c :: d :: r, q, cur, acc =>
    if isQ c then cutP sg (d :: r) (!q) (cur ++ [c]) acc
    else if q && isBS c then cutP sg r q (cur ++ [c, d]) acc
    else if !q && (c.toNat : Int) == sg.toNat then cutP sg (d :: r) q [] (acc ++ [trim cur])
    else cutP sg (d :: r) q (cur ++ [c]) acc

/-- R.parts, ahead of its last loop. -/
def partsR (sg : UInt8) : List UInt8 → Bool → Bool → List (List UInt8) → List UInt8 → List (List UInt8) × Bool
  | [], q, cn, acc, cur => (acc ++ [cur], !q)
  | c :: r, q, cn, acc, cur =>
    if (c.toNat : Int) == sg.toNat && !q then partsR sg r q cn (acc ++ [cur]) []
    else if cn then partsR sg r q false acc (cur ++ [c])
    else if isQ c then partsR sg r (!q) cn acc (cur ++ [c])
    else if isBS c then partsR sg r q q acc (cur ++ [c])
    else partsR sg r q cn acc (cur ++ [c])

def okMap (x : List (List UInt8) × Bool) : Option (List (List UInt8)) := if x.2 then some (x.1.map trim) else none

theorem isQ_eq (c : UInt8) (h : isQ c = true) : (c.toNat : Int) = 34 := by simpa [isQ] using h
theorem isBS_eq (c : UInt8) (h : isBS c = true) : (c.toNat : Int) = 92 := by simpa [isBS] using h

theorem cutP_partsR (sg : UInt8) (h1 : isQ sg = false) (h2 : isBS sg = false) (l : List UInt8) (q : Bool) (cur : List UInt8) (acc : List (List UInt8)) :
    cutP sg l q cur (acc.map trim) = okMap (partsR sg l q false acc cur) := by
  have hq : ∀ c, isQ c = true → ((c.toNat : Int) == (sg.toNat : Int)) = false := fun c hc => by
    have := isQ_eq c hc
    simp [isQ] at h1
    simp; omega
  have hb : ∀ c, isBS c = true → ((c.toNat : Int) == (sg.toNat : Int)) = false := fun c hc => by
    have := isBS_eq c hc
    simp [isBS] at h2
    simp; omega
  have hbq : ∀ c, isBS c = true → isQ c = false := fun c hc => by
    have := isBS_eq c hc
    simp [isQ]; omega
  have mapsnoc : ∀ (acc : List (List UInt8)) cur, acc.map trim ++ [trim cur] = (acc ++ [cur]).map trim := fun acc cur => by simp
  match l with
  | [] => cases q <;> simp [cutP, partsR, okMap]
  | [c] =>
    unfold cutP partsR
    cases hc : isQ c
    · cases hbs : isBS c
      · cases hs : ((c.toNat : Int) == (sg.toNat : Int)) <;> cases q <;> simp [hc, hbs, hs, cutP, partsR, okMap]
      · have := hb c hbs
        cases q <;> simp [hc, hbs, this, cutP, partsR, okMap]
    · have := hq c hc
      cases q <;> simp [hc, this, cutP, partsR, okMap]
  | c :: d :: r =>
    rw [cutP, partsR]
    cases hc : isQ c
    · cases hbs : isBS c
      · cases hs : ((c.toNat : Int) == (sg.toNat : Int)) <;> cases q
        · simp only [hc, hbs, hs, Bool.false_and, Bool.and_false, Bool.not_false, Bool.true_and, Bool.false_eq_true, if_false]
          exact cutP_partsR sg h1 h2 (d :: r) _ _ _
        · simp only [hc, hbs, hs, Bool.false_and, Bool.and_false, Bool.not_true, Bool.true_and, Bool.false_eq_true, if_false]
          exact cutP_partsR sg h1 h2 (d :: r) _ _ _
        · simp only [hc, hbs, hs, Bool.false_and, Bool.and_false, Bool.not_false, Bool.true_and, Bool.false_eq_true, if_false, if_true, mapsnoc]
          exact cutP_partsR sg h1 h2 (d :: r) _ _ _
        · simp only [hc, hbs, hs, Bool.false_and, Bool.and_false, Bool.not_true, Bool.true_and, Bool.false_eq_true, if_false]
          exact cutP_partsR sg h1 h2 (d :: r) _ _ _
      · have hs := hb c hbs
        cases q
        · simp only [hc, hbs, hs, Bool.false_and, Bool.and_false, Bool.not_false, Bool.true_and, Bool.false_eq_true, if_false, if_true]
          exact cutP_partsR sg h1 h2 (d :: r) _ _ _
        · simp only [hc, hbs, hs, Bool.false_and, Bool.and_false, Bool.not_true, Bool.true_and, Bool.and_true, Bool.false_eq_true, if_false, if_true]
          rw [partsR]
          simp only [Bool.not_true, Bool.and_false, Bool.false_eq_true, if_false, if_true]
          rw [show cur ++ [c, d] = cur ++ [c] ++ [d] by simp]
          exact cutP_partsR sg h1 h2 r _ _ _
    · have hs := hq c hc
      simp only [hc, hs, Bool.false_and, Bool.false_eq_true, if_false, if_true]
      exact cutP_partsR sg h1 h2 (d :: r) _ _ _
termination_by l.length

/-- How many parts and letters there are. -/
theorem cutP_len (sg : UInt8) (l : List UInt8) (q : Bool) (cur : List UInt8) (acc out : List (List UInt8)) (h : cutP sg l q cur acc = some out) : out.length ≤ acc.length + l.length + 1 := by
  fun_induction cutP sg l q cur acc
  all_goals first
    | (rename_i ih; have := ih h; simp only [List.length_cons, List.length_append, List.length_nil] at this ⊢; omega)
    | (cases h; done)
    | (injection h with h; subst h; simp; done)
    | (injection h with h; subst h; simp; omega)
end Go.Larder
namespace Go.Larder
theorem cutP_Q (sg x : UInt8) (r : List UInt8) (q : Bool) (cur : List UInt8) (acc : List (List UInt8)) (h : isQ x = true) : cutP sg (x :: r) q cur acc = cutP sg r (!q) (cur ++ [x]) acc := by
  cases r <;> simp [cutP, h]
theorem cutP_sg (sg x : UInt8) (r : List UInt8) (cur : List UInt8) (acc : List (List UInt8)) (h : isQ x = false) (hs : ((x.toNat : Int) == (sg.toNat : Int)) = true) : cutP sg (x :: r) false cur acc = cutP sg r false [] (acc ++ [trim cur]) := by
  cases r <;> simp [cutP, h, hs]
theorem cutP_out (sg x : UInt8) (r : List UInt8) (cur : List UInt8) (acc : List (List UInt8)) (h : isQ x = false) (hs : ((x.toNat : Int) == (sg.toNat : Int)) = false) : cutP sg (x :: r) false cur acc = cutP sg r false (cur ++ [x]) acc := by
  cases r <;> simp [cutP, h, hs]
theorem cutP_in (sg x : UInt8) (r : List UInt8) (cur : List UInt8) (acc : List (List UInt8)) (h : isQ x = false) (hb : isBS x = false) : cutP sg (x :: r) true cur acc = cutP sg r true (cur ++ [x]) acc := by
  cases r <;> simp [cutP, h, hb]
theorem cutP_esc (sg x d : UInt8) (r : List UInt8) (cur : List UInt8) (acc : List (List UInt8)) (h : isQ x = false) (hb : isBS x = true) : cutP sg (x :: d :: r) true cur acc = cutP sg r true (cur ++ [x, d]) acc := by
  simp [cutP, h, hb]
theorem cutP_esc0 (sg x : UInt8) (cur : List UInt8) (acc : List (List UInt8)) (h : isQ x = false) (hb : isBS x = true) : cutP sg [x] true cur acc = none := by
  simp [cutP, h, hb]

/-- What token.cut answers. -/
def cutE (sg : UInt8) (l : List UInt8) : Except Int (List (List UInt8)) := match cutP sg l false [] [] with
  | none => .error 3
  | some out => .ok out

theorem seg_snoc {α : Type} {l : List α} {f k : Nat} {x : α} (hf : f ≤ k) (hx : l[k]? = some x) : (l.drop f).take (k + 1 - f) = (l.drop f).take (k - f) ++ [x] := by
  rw [show k + 1 - f = (k - f) + 1 by omega, List.take_add_one]
  congr 1
  rw [List.getElem?_drop, show f + (k - f) = k by omega, hx]
  rfl

theorem set_last {α : Type} (acc : List α) (cur x : α) : (acc ++ [cur]).set acc.length x = acc ++ [x] := by
  rw [List.set_append, if_neg (by omega)]
  simp
theorem get_last {α : Type} (acc : List α) (cur : α) : (acc ++ [cur])[acc.length]? = some cur := by simp

/-- Between two rounds of a loop that maps in place. -/
theorem map_step {α : Type} (f : α → α) (l : List α) (j : Nat) (x : α) (hx : l[j]? = some x) :
    ((l.take j).map f ++ l.drop j)[j]? = some x ∧ ((l.take j).map f ++ l.drop j).set j (f x) = (l.take (j + 1)).map f ++ l.drop (j + 1) := by
  have hj : j < l.length := (List.getElem?_eq_some_iff.1 hx).1
  have hl : ((l.take j).map f).length = j := by simp; omega
  constructor
  · rw [List.getElem?_append_right (by omega), hl, Nat.sub_self, List.getElem?_drop, Nat.add_zero, hx]
  · rw [List.set_append, if_neg (by omega), hl, Nat.sub_self, List.take_add_one, hx, List.map_append]
    have hd : l.drop j = x :: l.drop (j + 1) := by
      rw [List.drop_eq_getElem_cons hj]
      rw [List.getElem?_eq_getElem hj] at hx
      injection hx with hx
      rw [hx]
    rw [hd]
    simp
end Go.Larder

namespace Go.Larder
def ne (t : List UInt8) : Bool := !(t == [])
/-- What token.Split answers. -/
def splitE (l : List UInt8) : Except Int (List (List UInt8)) :=
  if 1000 < l.length then .error 2 else match cutE 44 l with
  | .error n => .error n
  | .ok out => if 20 < (out.filter ne).length then .error 2 else .ok (out.filter ne)
theorem cutE_parts (sg : UInt8) (h1 : isQ sg = false) (h2 : isBS sg = false) (l : List UInt8) :
    cutE sg l = if (partsR sg l false false [] []).2 then .ok ((partsR sg l false false [] []).1.map trim) else .error 3 := by
  unfold cutE
  have h := cutP_partsR sg h1 h2 l false [] []
  rw [List.map_nil] at h
  rw [h]
  unfold okMap
  split <;> simp_all
theorem cutE_len (sg : UInt8) (l : List UInt8) (out : List (List UInt8)) (h : cutE sg l = .ok out) : out.length ≤ l.length + 1 := by
  unfold cutE at h
  split at h
  · cases h
  · rename_i o ho
    injection h with h
    subst h
    have := cutP_len sg l false [] [] o ho
    simpa using this
theorem cutE_err (sg : UInt8) (l : List UInt8) (n : Int) (h : cutE sg l = .error n) : n = 3 := by
  unfold cutE at h
  split at h
  · injection h with h; exact h.symm
  · cases h
theorem filter_step {α : Type} (f : α → Bool) (L : List α) (k : Nat) (x : α) (acc : List α) (hs : L.drop k = x :: L.drop (k + 1)) (h : acc ++ (L.drop k).filter f = L.filter f) :
    (f x = true → (acc ++ [x]) ++ (L.drop (k + 1)).filter f = L.filter f) ∧ (f x = false → acc ++ (L.drop (k + 1)).filter f = L.filter f) := by
  rw [hs, List.filter_cons] at h
  constructor
  · intro hx; rw [← h, hx]; simp
  · intro hx; rw [← h, hx]; rfl
end Go.Larder
end

/- SpecDir -/
section
namespace Go.Larder
open Go.RowKit
set_option linter.unusedVariables false
set_option linter.unusedSimpArgs false
theorem ixb : ∀ (l : List UInt8) (c : UInt8), Lib.indexByte l c = -1 ∨ ∃ k : Nat, Lib.indexByte l c = (k : Int) ∧ k < l.length
  | [], c => .inl rfl
  | x :: l, c => by
    unfold Lib.indexByte
    by_cases h : x = c
    · exact .inr ⟨0, by simp [h], Nat.succ_pos _⟩
    · rcases ixb l c with h1 | ⟨k, h1, h2⟩
      · exact .inl (by simp [h, h1])
      · refine .inr ⟨k + 1, ?_, Nat.succ_lt_succ h2⟩
        have h3 : ((k : Int) == -1) = false := by rw [beq_eq_false_iff_ne]; omega
        have h4 : (x == c) = false := by simp [h]
        rw [h4, h1, h3]
        simp
/-- Unquote of any text. -/
def unqAll : List UInt8 → List UInt8 × Int
  | [] => ([], 3)
  | a :: t => match t.reverse with
    | [] => ([], 3)
    | b :: r => unqMid a r.reverse b
theorem unqAll_short {l : List UInt8} (h : l.length < 2) : unqAll l = ([], 3) := by
  rcases l with _ | ⟨a, _ | ⟨b, t⟩⟩
  · rfl
  · rfl
  · simp at h; omega
theorem unqAll_mid (a : UInt8) (m : List UInt8) (b : UInt8) : unqAll (a :: (m ++ [b])) = unqMid a m b := by
  simp [unqAll]
theorem mid_of {l : List UInt8} (h : ¬ l.length < 2) : ∃ a m b, l = a :: (m ++ [b]) := by
  rcases l with _ | ⟨a, t⟩
  · simp at h
  · rcases nil_or_snoc t with rfl | ⟨m, b, rfl⟩
    · simp at h
    · exact ⟨a, m, b, rfl⟩
theorem unq_len : ∀ (m acc out : List UInt8), unq m acc = some out → out.length ≤ m.length + acc.length := by
  intro m acc
  fun_induction unq m acc with
  | case1 acc => intro out h; injection h with h; subst h; simp
  | case2 c acc h => intro out h; cases h
  | case3 c acc h h2 => intro out h; injection h with h; subst h; simp; omega
  | case4 c acc h h2 => intro out h; cases h
  | case5 c d r acc h h2 ih => intro out h; have := ih out h; simp at this ⊢; omega
  | case6 c d r acc h h2 => intro out h; cases h
  | case7 c d r acc h h2 => intro out h; cases h
  | case8 c d r acc h h2 h3 ih => intro out h; have := ih out h; simp at this ⊢; omega
  | case9 c d r acc h h2 h3 => intro out h; cases h
theorem unqAll_len (l : List UInt8) : (unqAll l).1.length ≤ l.length := by
  by_cases h : l.length < 2
  · rw [unqAll_short h]; simp
  · obtain ⟨a, m, b, rfl⟩ := mid_of h
    rw [unqAll_mid]
    unfold unqMid
    split
    · unfold unqEnd
      split
      · simp
      · rename_i o ho
        have := unq_len m [] o ho
        split
        · simp
        · simp at this ⊢; omega
    · simp
theorem tokLow_nat : ∀ n : Fin 256, tokB (lowB (UInt8.ofNat n.val)) = tokB (UInt8.ofNat n.val) := by decide +kernel
theorem tokLow (c : UInt8) : tokB (lowB c) = tokB c := by
  have := tokLow_nat ⟨c.toNat, c.toNat_lt⟩
  simpa using this
theorem isTok_low (l : List UInt8) : isTok (lowL l) = isTok l := by
  unfold isTok lowL
  have h : (l.map lowB).all tokB = l.all tokB := by
    rw [List.all_map]
    congr 1
    funext c
    exact tokLow c
  rw [h]
  cases l <;> rfl

abbrev Dir' := List UInt8 × Bool × List UInt8
/-- One directive, and whether it can be read. -/
def dirAt (t : List UInt8) (k : Nat) : Dir' × Bool :=
  if isTok (t.drop (k + 1)) then ((lowL (t.take k), true, t.drop (k + 1)), isTok (t.take k))
  else if (unqAll (t.drop (k + 1))).2 = 0 then ((lowL (t.take k), true, (unqAll (t.drop (k + 1))).1), isTok (t.take k))
  else ((lowL (t.take k), true, t.drop (k + 1)), false)
def dirR (t : List UInt8) : Dir' × Bool :=
  if 0 ≤ Lib.indexByte t 61 then dirAt t (Lib.indexByte t 61).toNat else ((lowL t, false, []), isTok t)
theorem dirR_no {t : List UInt8} (h : Lib.indexByte t 61 = -1) : dirR t = ((lowL t, false, []), isTok t) := by unfold dirR; rw [if_neg (by omega)]
theorem dirR_at {t : List UInt8} {k : Nat} (h : Lib.indexByte t 61 = (k : Int)) : dirR t = dirAt t k := by unfold dirR; rw [if_pos (by omega), h]; rfl
def dirsGo : List (List UInt8) → List Dir' → Option (List Dir')
  | [], acc => some acc
  | t :: l, acc => if (dirR t).2 then dirsGo l (acc ++ [(dirR t).1]) else none
def ctlE (s : List UInt8) : Except Int (List Dir') :=
  match splitE s with
  | .error n => .error n
  | .ok l => match dirsGo l [] with
    | none => .error 3
    | some ds => .ok ds
theorem dirsGo_len : ∀ (l : List (List UInt8)) (acc ds : List Dir'), dirsGo l acc = some ds → ds.length = l.length + acc.length
  | [], acc, ds, h => by injection h with h; subst h; simp
  | t :: l, acc, ds, h => by
    unfold dirsGo at h
    split at h
    · have := dirsGo_len l _ ds h; simp at this ⊢; omega
    · cases h
theorem ctlE_err {s : List UInt8} {n : Int} (h : splitE s = .error n) : ctlE s = .error n := by unfold ctlE; rw [h]
theorem ctlE_none {s : List UInt8} {l : List (List UInt8)} (h : splitE s = .ok l) (h2 : dirsGo l [] = none) : ctlE s = .error 3 := by unfold ctlE; rw [h]; simp only [h2]
theorem ctlE_some {s : List UInt8} {l : List (List UInt8)} {ds : List Dir'} (h : splitE s = .ok l) (h2 : dirsGo l [] = some ds) : ctlE s = .ok ds := by unfold ctlE; rw [h]; simp only [h2]
theorem trim_len (l : List UInt8) : (trim l).length ≤ l.length := by
  unfold trim trimR
  rw [List.length_reverse]
  have h1 := (List.dropWhile_sublist isB (l := (l.dropWhile isB).reverse)).length_le
  have h2 := (List.dropWhile_sublist isB (l := l)).length_le
  rw [List.length_reverse] at h1
  omega
theorem partsR_len (sg : UInt8) : ∀ (l : List UInt8) (q cn : Bool) (acc : List (List UInt8)) (cur : List UInt8), ∀ t ∈ (partsR sg l q cn acc cur).1, t ∈ acc ∨ t.length ≤ l.length + cur.length
  | [], q, cn, acc, cur, t, ht => by
    simp [partsR] at ht
    rcases ht with h | rfl
    · exact .inl h
    · exact .inr (by simp)
  | c :: r, q, cn, acc, cur, t, ht => by
    unfold partsR at ht
    have hc : (cur ++ [c]).length = cur.length + 1 := by simp
    split at ht
    · rcases partsR_len sg r q cn _ _ t ht with h | h
      · rcases List.mem_append.1 h with h | h
        · exact .inl h
        · simp at h; subst h; exact .inr (by simp)
      · exact .inr (by simp at h ⊢; omega)
    · split at ht
      · rcases partsR_len sg r _ _ _ _ t ht with h | h
        · exact .inl h
        · exact .inr (by rw [hc] at h; simp; omega)
      · split at ht
        · rcases partsR_len sg r _ _ _ _ t ht with h | h
          · exact .inl h
          · exact .inr (by rw [hc] at h; simp; omega)
        · split at ht
          · rcases partsR_len sg r _ _ _ _ t ht with h | h
            · exact .inl h
            · exact .inr (by rw [hc] at h; simp; omega)
          · rcases partsR_len sg r _ _ _ _ t ht with h | h
            · exact .inl h
            · exact .inr (by rw [hc] at h; simp; omega)
theorem cutE_text {sg : UInt8} (h1 : isQ sg = false) (h2 : isBS sg = false) {s : List UInt8} {l : List (List UInt8)} (h : cutE sg s = .ok l) : ∀ t ∈ l, t.length ≤ s.length := by
  rw [cutE_parts sg h1 h2] at h
  split at h
  · injection h with h
    subst h
    intro t ht
    obtain ⟨u, hu, rfl⟩ := List.mem_map.1 ht
    have h3 := trim_len u
    rcases partsR_len sg s false false [] [] u hu with h4 | h4
    · simp at h4
    · simp at h4; omega
  · cases h
theorem splitE_text {s : List UInt8} {l : List (List UInt8)} (h : splitE s = .ok l) : ∀ t ∈ l, t.length ≤ 1000 := by
  unfold splitE at h
  split at h
  · cases h
  · rename_i hs
    split at h
    · cases h
    · rename_i o ho
      split at h
      · cases h
      · injection h with h
        subst h
        intro t ht
        have := cutE_text rfl rfl ho t (List.mem_filter.1 ht).1
        omega
/-- How many texts there are. -/
theorem splitE_ok {s : List UInt8} {l : List (List UInt8)} (h : splitE s = .ok l) : l.length ≤ 20 := by
  unfold splitE at h
  split at h
  · cases h
  · split at h
    · cases h
    · split at h
      · cases h
      · injection h with h; subst h; omega
end Go.Larder
end

/- SpecQuo -/
section
namespace Go.Larder
open Go.Lib
set_option linter.unusedVariables false
set_option linter.unusedSimpArgs false
theorem repK (c : UInt8) (new : List UInt8) : ∀ (n : Nat) (s : List UInt8), s.length ≤ n → replaceK [c] new (count s [c]) s = s.flatMap fun x => if x = c then new else [x]
  | n, s, hn => by
    by_cases hm : index s [c] = -1
    · rw [count_miss hm]
      unfold replaceK
      rw [index_one] at hm
      have hno := indexByte_none hm
      have : ∀ l : List UInt8, (∀ k : Nat, l[k]? ≠ some c) → l.flatMap (fun x => if x = c then new else [x]) = l := by
        intro l
        induction l with
        | nil => intro _; rfl
        | cons a l ih =>
          intro h
          have ha : a ≠ c := fun e => h 0 (by simp [e])
          rw [List.flatMap_cons, if_neg ha, ih (fun k => by have := h (k + 1); simpa using this)]
          rfl
      exact (this s hno).symm
    · have hge := index_ge s [c]
      obtain ⟨i, hi⟩ : ∃ i : Nat, index s [c] = i := ⟨(index s [c]).toNat, by omega⟩
      have hc := count_hit (sub := [c]) (by simp) hi
      rw [hc, Nat.add_comm, replaceK_hit [c] new _ s i hi]
      rw [index_one] at hi
      obtain ⟨h1, h2⟩ := indexByte_some hi
      have hil : i < s.length := (List.getElem?_eq_some_iff.1 h1).1
      have hsplit : s = s.take i ++ c :: s.drop (i + 1) := by
        have h8 := List.drop_eq_getElem_cons hil
        rw [(List.getElem?_eq_some_iff.1 h1).2] at h8
        rw [← h8, List.take_append_drop]
      have htk : (s.take i).flatMap (fun x => if x = c then new else [x]) = s.take i := by
        have : ∀ l : List UInt8, (∀ x ∈ l, x ≠ c) → l.flatMap (fun x => if x = c then new else [x]) = l := by
          intro l
          induction l with
          | nil => intro _; rfl
          | cons a l ih =>
            intro h
            rw [List.flatMap_cons, if_neg (h a (by simp)), ih (fun x hx => h x (by simp [hx]))]
            rfl
        refine this _ fun x hx e => ?_
        subst e
        obtain ⟨k, hk⟩ := List.getElem?_of_mem hx
        have hki : k < i := by
          have := (List.getElem?_eq_some_iff.1 hk).1
          rw [List.length_take] at this
          omega
        rw [List.getElem?_take_of_lt hki] at hk
        exact h2 k hki hk
      have ih := repK c new (n - 1) (s.drop (i + 1)) (by rw [List.length_drop]; omega)
      have hl1 : i + [c].length = i + 1 := rfl
      rw [hl1, ih]
      conv => rhs; rw [hsplit]
      rw [List.flatMap_append, htk, List.flatMap_cons, if_pos rfl, List.append_assoc]
  termination_by n s _ => s.length
theorem repl_one (c : UInt8) (new s : List UInt8) (h : ([c] == new) = false) : replaceAll s [c] new = s.flatMap fun x => if x = c then new else [x] := by
  unfold replaceAll replace
  rw [if_neg (by simp [h])]
  unfold replaceNum
  rw [if_pos (.inl (by decide))]
  exact repK c new s.length s (Nat.le_refl _)
def quoC (c : UInt8) : List UInt8 := if c = 34 ∨ c = 92 then [92, c] else [c]
def quoL (s : List UInt8) : List UInt8 := s.flatMap quoC
theorem quo_rep (s : List UInt8) : replaceAll (replaceAll s [92] [92, 92]) [34] [92, 34] = quoL s := by
  rw [repl_one _ _ _ (by decide), repl_one _ _ _ (by decide)]
  unfold quoL
  induction s with
  | nil => rfl
  | cons a s ih =>
    rw [List.flatMap_cons, List.flatMap_append, ih, List.flatMap_cons]
    congr 1
    unfold quoC
    by_cases h1 : a = 92
    · subst h1; decide
    · by_cases h2 : a = 34
      · subst h2; decide
      · simp [h1, h2]
theorem quoL_len : ∀ s : List UInt8, (quoL s).length ≤ 2 * s.length
  | [] => by simp [quoL]
  | c :: s => by
    have := quoL_len s
    unfold quoL quoC at *
    rw [List.flatMap_cons, List.length_append]
    split <;> simp at * <;> omega
theorem quoL_snoc {l : List UInt8} {k : Nat} {c : UInt8} (h : l[k]? = some c) : quoL (l.take (k + 1)) = quoL (l.take k) ++ quoC c := by
  rw [List.take_add_one, h]; simp [quoL]
def quoE (s : List UInt8) : Except Int (List UInt8) := if 1000 < s.length then .error 2 else if s.all isPl then .ok (34 :: (quoL s ++ [34])) else .error 3
end Go.Larder
end

/- SpecSpan -/
section
namespace Go.Larder
set_option linter.unusedVariables false
set_option linter.unusedSimpArgs false

def isNum (n : Int) : Bool := decide (0 ≤ n) && decide (n ≤ 99999)
def isWant (f : Int × Int) : Bool := if f.1 = -1 then isNum f.2 else if f.2 = -1 then isNum f.1 else isNum f.1 && (isNum f.2 && decide (f.1 ≤ f.2))

/-- What one of them stands for. -/
def slotOf (size : Int) (f : Int × Int) : Int × Int := if f.1 < 0 then (max 0 (size - f.2), size) else if f.2 < 0 then (f.1, size) else (f.1, min (f.2 + 1) size)
def slots (size : Int) : List (Int × Int) → List (Int × Int)
  | [] => []
  | f :: l => if (slotOf size f).1 < (slotOf size f).2 then slotOf size f :: slots size l else slots size l

def checkP (l : List (Int × Int)) : Int := if l.length == 0 || (l.any fun f => !isWant f) then 1 else 0
def checkR (l : List (Int × Int)) : Int := if l.length == 0 || (l.any fun f => !isWant f) then 1 else if 20 < l.length then 2 else 0
theorem isWant_R (a b : Int) : isWant (a, b) = if a = -1 then !(decide (b < 0) || decide (99999 < b)) else !(decide (a < 0) || decide (99999 < a)) && (b == -1 || !(decide (b < a) || decide (99999 < b))) := by
  unfold isWant isNum
  by_cases h1 : a = -1
  · simp only [h1, if_pos]
    rw [Bool.eq_iff_iff]; simp
  · by_cases h2 : b = -1
    · simp only [h1, h2]
      rw [Bool.eq_iff_iff]; simp
    · simp only [h1, h2, if_false]
      rw [Bool.eq_iff_iff]; simp [h2]; omega

def spanRes (l : List (Int × Int)) (size : Int) : Except Int (List (Int × Int)) :=
  if l.length == 0 || (l.any fun f => !isWant f) || decide (size < 0) then .error 1
  else if 20 < l.length then .error 2
  else if (slots size l).isEmpty then .error 11 else .ok (slots size l)

theorem slots_len (size : Int) : ∀ l, (slots size l).length ≤ l.length
  | [] => by simp [slots]
  | f :: l => by
    have := slots_len size l
    unfold slots
    split <;> simp <;> omega
theorem spanRes_len {l : List (Int × Int)} {size : Int} {out : List (Int × Int)} (h : spanRes l size = .ok out) : out.length ≤ 20 := by
  unfold spanRes at h
  have := slots_len size l
  split at h
  · cases h
  · split at h
    · cases h
    · split at h
      · cases h
      · cases h; omega
end Go.Larder
end

/- SpecSpp -/
section
namespace Go.Larder
set_option linter.unusedVariables false
set_option linter.unusedSimpArgs false
def sgnL (n : Int) : List UInt8 := if n < 0 then [] else Lib.decDigits n.toNat
def wantS (f : Int × Int) : List UInt8 := sgnL f.1 ++ [45] ++ sgnL f.2
def bytesEq : List UInt8 := [98, 121, 116, 101, 115, 61]
def spL (l : List (Int × Int)) : List UInt8 := bytesEq ++ Lib.join (l.map wantS) [44]
def spE (l : List (Int × Int)) : Except Int (List UInt8) := if checkR l = 0 then .ok (spL l) else .error (checkR l)
theorem join_snocG (vs : List (List UInt8)) (x sep : List UInt8) : Lib.join (vs ++ [x]) sep = if vs.isEmpty then x else Lib.join vs sep ++ sep ++ x := by
  cases vs with
  | nil => simp [Lib.join_one]
  | cons v vs => simp [Lib.join_cons, Lib.joinTail]
theorem join_lenG (sep : List UInt8) (m : Nat) : ∀ (vs : List (List UInt8)), (∀ v ∈ vs, v.length ≤ m) → (Lib.join vs sep).length ≤ vs.length * (m + sep.length) := by
  intro vs h
  rcases nil_or_snoc vs with rfl | ⟨ws, x, rfl⟩
  · simp [Lib.join_nil]
  · rw [join_snocG]
    have hx := h x (by simp)
    by_cases he : ws.isEmpty = true
    · rw [if_pos he]
      have : ws = [] := by simpa using he
      subst this
      simp; omega
    · rw [if_neg he]
      have ih := join_lenG sep m ws (fun v hv => h v (by simp [hv]))
      simp only [List.length_append, List.length_cons, List.length_nil]
      rw [Nat.zero_add, Nat.add_mul]
      omega
termination_by vs => vs.length
decreasing_by simp_all
theorem dec_len {n : Int} (h0 : 0 ≤ n) (h1 : n ≤ 9223372036854775807) : (Lib.decDigits n.toNat).length ≤ 21 := by
  have := Lib.itoa_length_le n (by omega) h1
  unfold Lib.itoa at this
  rwa [if_neg (by omega)] at this
theorem sgn_len {n : Int} (h1 : n ≤ 99999) : (sgnL n).length ≤ 21 := by
  unfold sgnL
  split
  · simp
  · exact dec_len (by omega) (by omega)
theorem wantS_len {f : Int × Int} (h1 : f.1 ≤ 99999) (h2 : f.2 ≤ 99999) : (wantS f).length ≤ 43 := by
  have a := sgn_len h1
  have b := sgn_len h2
  simp only [wantS, List.length_append, List.length_cons, List.length_nil]
  omega
theorem want_bd {a b : Int} (h : isWant (a, b) = true) : -1 ≤ a ∧ a ≤ 99999 ∧ -1 ≤ b ∧ b ≤ 99999 ∧ (a < 0 → 0 ≤ b) := by
  unfold isWant isNum at h
  simp only at h
  split at h
  · simp at h; omega
  · split at h
    · simp at h; omega
    · simp at h; omega
theorem checkR_zero {l : List (Int × Int)} (h : checkR l = 0) : checkP l = 0 ∧ l.length ≤ 20 ∧ ∀ f ∈ l, isWant f = true := by
  unfold checkR at h
  unfold checkP
  split at h
  · omega
  · next h1 =>
    split at h
    · omega
    · refine ⟨if_neg h1, by omega, fun f hf => ?_⟩
      cases hw : isWant f
      · exfalso; apply h1
        rw [Bool.or_eq_true]
        exact .inr (List.any_eq_true.2 ⟨f, hf, by simp [hw]⟩)
      · rfl
end Go.Larder
end

/- SpecCtp -/
section
namespace Go.Larder
set_option linter.unusedVariables false
set_option linter.unusedSimpArgs false
abbrev Dr := List UInt8 × Bool × List UInt8
def dirOK (d : Dr) : Bool := isTok d.1 && (d.1 == lowL d.1) && (d.2.1 || d.2.2.isEmpty)
def dirE (d : Dr) : Except Int (List UInt8) :=
  if dirOK d = true then (if d.2.1 = true then (if isTok d.2.2 = true then .ok (d.1 ++ [61] ++ d.2.2) else match quoE d.2.2 with
    | .error e => .error e
    | .ok q => .ok (d.1 ++ [61] ++ q)) else .ok d.1) else .error 3
def cpGo : List Dr → List (List UInt8) → Except Int (List (List UInt8))
  | [], ts => .ok ts
  | d :: l, ts => match dirE d with
    | .error e => .error e
    | .ok t => cpGo l (ts ++ [t])
def cpEnd : Except Int (List (List UInt8)) → Except Int (List UInt8)
  | .error e => .error e
  | .ok ts => if 20 < ts.length ∨ 1000 < (Lib.join ts [44, 32]).length then .error 2 else .ok (Lib.join ts [44, 32])
def cpE (l : List Dr) : Except Int (List UInt8) := cpEnd (cpGo l [])
theorem quo_err {s : List UInt8} {e : Int} (h : quoE s = .error e) : (e == 0) = false := by
  unfold quoE at h
  split at h
  · injection h with h; subst h; rfl
  · split at h
    · cases h
    · injection h with h; subst h; rfl
theorem dir_err {d : Dr} {e : Int} (h : dirE d = .error e) : (e == 0) = false := by
  unfold dirE at h
  split at h
  · split at h
    · split at h
      · cases h
      · split at h
        · next h2 => injection h with h; subst h; exact quo_err h2
        · cases h
    · cases h
  · injection h with h; subst h; rfl
theorem quo_len {s q : List UInt8} (h : quoE s = .ok q) : q.length ≤ 2 * s.length + 2 := by
  unfold quoE at h
  split at h
  · cases h
  · split at h
    · injection h with h
      have := quoL_len s
      subst h
      simp; omega
    · cases h
theorem dir_len {d : Dr} {t : List UInt8} (h : dirE d = .ok t) : t.length ≤ 2 * (d.1.length + d.2.2.length) + 3 := by
  unfold dirE at h
  split at h
  · split at h
    · split at h
      · injection h with h; subst h; simp; omega
      · split at h
        · cases h
        · next h2 => injection h with h; subst h; have := quo_len h2; simp; omega
    · injection h with h; subst h; omega
  · cases h
end Go.Larder
end

/- SpecTag -/
section
namespace Go.Larder
set_option linter.unusedSimpArgs false
set_option linter.unusedVariables false

def isTagB (c : UInt8) : Bool := (c.toNat : Int) == 33 || (decide (35 ≤ (c.toNat : Int)) && decide ((c.toNat : Int) ≤ 126))
def wkL : List UInt8 := [87, 47]
def tagL (wk : Bool) (t : List UInt8) : List UInt8 := (if wk then wkL else []) ++ 34 :: (t ++ [34])
def tagOK (t : List UInt8) : Bool := decide (t.length ≤ 100) && t.all isTagB
def tagE (wk : Bool) (t : List UInt8) : Except Int (List UInt8) := if 100 < t.length then .error 2 else if t.all isTagB = true then .ok (tagL wk t) else .error 3
theorem tagE_ok {wk : Bool} {t : List UInt8} (h : tagOK t = true) : tagE wk t = .ok (tagL wk t) := by
  unfold tagOK at h
  rw [Bool.and_eq_true, decide_eq_true_eq] at h
  unfold tagE
  rw [if_neg (by omega), if_pos h.2]
theorem tagE_bad {wk : Bool} {t : List UInt8} (h : tagOK t = false) : ∃ n, tagE wk t = .error n ∧ (n == 0) = false := by
  unfold tagE
  by_cases h1 : 100 < t.length
  · rw [if_pos h1]; exact ⟨2, rfl, rfl⟩
  · rw [if_neg h1]
    cases h2 : t.all isTagB
    · rw [if_neg (by simp)]; exact ⟨3, rfl, rfl⟩
    · unfold tagOK at h; rw [h2] at h; simp at h; omega
/-- A tag at a text's head, and what stands behind it. -/
def firstE (s : List UInt8) : Option (Bool × List UInt8 × List UInt8) :=
  let s1 := Lib.trimPrefix s wkL
  let c := cut1 34 (Lib.trimPrefix s1 [34])
  if (Lib.hasPrefix s1 [34] && c.2.2 && tagOK c.1) = true then some (Lib.hasPrefix s wkL, c.1, c.2.1) else none
def parseT (s : List UInt8) : Option (Bool × List UInt8) := match firstE s with
  | some (wk, t, r) => if r.isEmpty then some (wk, t) else none
  | none => none
def midL (r : List UInt8) : List UInt8 := if 1 < r.length then (r.drop 1).take (r.length - 1 - 1) else []
def parseTR (s : List UInt8) : Option (Bool × List UInt8) :=
  if (tagOK (midL (Lib.trimPrefix s wkL)) && (tagL (Lib.hasPrefix s wkL) (midL (Lib.trimPrefix s wkL)) == s)) = true then some (Lib.hasPrefix s wkL, midL (Lib.trimPrefix s wkL)) else none
theorem tagB_no34 {t : List UInt8} (h : t.all isTagB = true) : ∀ x ∈ t, x ≠ 34 := by
  intro x hx e
  subst e
  have := List.all_eq_true.1 h _ hx
  revert this
  decide
theorem tagOK_parts {t : List UInt8} (h : tagOK t = true) : t.length ≤ 100 ∧ t.all isTagB = true := by
  unfold tagOK at h
  rw [Bool.and_eq_true, decide_eq_true_eq] at h
  exact h
theorem pre_wk (r : List UInt8) : Lib.hasPrefix (wkL ++ r) wkL = true := by simp [Lib.hasPrefix, wkL, List.isPrefixOf]
theorem pre_q (r : List UInt8) : Lib.hasPrefix (34 :: r) [34] = true := by simp [Lib.hasPrefix, List.isPrefixOf]
theorem pre_wk_q (r : List UInt8) : Lib.hasPrefix (34 :: r) wkL = false := by simp [Lib.hasPrefix, wkL, List.isPrefixOf]
theorem pre_app {s p : List UInt8} (h : Lib.hasPrefix s p = true) : s = p ++ Lib.trimPrefix s p := by
  unfold Lib.trimPrefix
  rw [if_pos h]
  unfold Lib.hasPrefix at h
  obtain ⟨r, rfl⟩ := List.isPrefixOf_iff_prefix.1 h
  simp
theorem trim_wk (r : List UInt8) : Lib.trimPrefix (wkL ++ r) wkL = r := by
  unfold Lib.trimPrefix; rw [pre_wk]; simp
theorem trim_q (r : List UInt8) : Lib.trimPrefix (34 :: r) [34] = r := by
  unfold Lib.trimPrefix; rw [pre_q]; simp
theorem trim_no {s p : List UInt8} (h : Lib.hasPrefix s p = false) : Lib.trimPrefix s p = s := by unfold Lib.trimPrefix; rw [h]; rfl
theorem tagL_pre (wk : Bool) (t : List UInt8) : Lib.hasPrefix (tagL wk t) wkL = wk ∧ Lib.trimPrefix (tagL wk t) wkL = 34 :: (t ++ [34]) := by
  cases wk
  · have : tagL false t = 34 :: (t ++ [34]) := rfl
    rw [this]
    exact ⟨pre_wk_q _, trim_no (pre_wk_q _)⟩
  · have : tagL true t = wkL ++ 34 :: (t ++ [34]) := rfl
    rw [this]
    exact ⟨pre_wk _, trim_wk _⟩
theorem mid_of_q (t : List UInt8) : midL (34 :: (t ++ [34])) = t := by
  unfold midL
  rw [if_pos (by simp)]
  simp
theorem firstE_tag (wk : Bool) (t r : List UInt8) (h : tagOK t = true) : firstE (tagL wk t ++ r) = some (wk, t, r) := by
  have e1 : Lib.hasPrefix (tagL wk t ++ r) wkL = wk ∧ Lib.trimPrefix (tagL wk t ++ r) wkL = 34 :: (t ++ 34 :: r) := by
    cases wk
    · have : tagL false t ++ r = 34 :: (t ++ 34 :: r) := by simp [tagL]
      rw [this]
      exact ⟨pre_wk_q _, trim_no (pre_wk_q _)⟩
    · have : tagL true t ++ r = wkL ++ 34 :: (t ++ 34 :: r) := by simp [tagL]
      rw [this]
      exact ⟨pre_wk _, trim_wk _⟩
  unfold firstE
  rw [e1.1, e1.2]
  simp only
  rw [pre_q, trim_q, cut1_app _ (tagB_no34 (tagOK_parts h).2)]
  simp [h]
theorem firstE_some {s : List UInt8} {wk : Bool} {t r : List UInt8} (h : firstE s = some (wk, t, r)) : s = tagL wk t ++ r ∧ tagOK t = true := by
  unfold firstE at h
  simp only at h
  split at h
  · next hc =>
    rw [Bool.and_eq_true, Bool.and_eq_true] at hc
    obtain ⟨⟨h1, h2⟩, h3⟩ := hc
    injection h with h
    injection h with ha hb
    injection hb with hb hc
    obtain ⟨h4, _⟩ := cut1_true h2
    rw [hb, hc] at h4
    rw [hb] at h3
    have h5 := pre_app h1
    rw [h4] at h5
    refine ⟨?_, h3⟩
    cases hw : Lib.hasPrefix s wkL
    · rw [trim_no hw] at h5
      rw [hw] at ha
      subst ha
      rw [h5]; simp [tagL]
    · have h6 := pre_app hw
      rw [hw] at ha
      subst ha
      rw [h5] at h6
      rw [h6]
      simp [tagL]
  · cases h
theorem parseT_eq (s : List UInt8) : parseT s = parseTR s := by
  unfold parseTR
  by_cases h : (tagOK (midL (Lib.trimPrefix s wkL)) && (tagL (Lib.hasPrefix s wkL) (midL (Lib.trimPrefix s wkL)) == s)) = true
  · rw [if_pos h]
    rw [Bool.and_eq_true, beq_iff_eq] at h
    have := firstE_tag (Lib.hasPrefix s wkL) (midL (Lib.trimPrefix s wkL)) [] h.1
    rw [List.append_nil, h.2] at this
    unfold parseT
    rw [this]
    rfl
  · rw [if_neg h]
    unfold parseT
    cases hf : firstE s with
    | none => rfl
    | some x =>
      obtain ⟨wk, t, r⟩ := x
      simp only
      cases r with
      | nil =>
        exfalso
        apply h
        obtain ⟨h1, h2⟩ := firstE_some hf
        rw [List.append_nil] at h1
        have h3 := tagL_pre wk t
        rw [← h1] at h3
        rw [h3.1, h3.2, mid_of_q, h2, ← h1]
        simp
      | cons a r => rfl
theorem tagB_nat : ∀ n : Fin 256, isTagB (UInt8.ofNat n.val) = (isPl (UInt8.ofNat n.val) && !([32, 9, 34] : List UInt8).contains (UInt8.ofNat n.val)) := by decide +kernel
theorem tagB_eq (c : UInt8) : isTagB c = (isPl c && !([32, 9, 34] : List UInt8).contains c) := by
  have := tagB_nat ⟨c.toNat, c.toNat_lt⟩
  simpa using this
theorem trimPre_len (s p : List UInt8) : (Lib.trimPrefix s p).length ≤ s.length := Lib.trimPrefix_le s p
end Go.Larder
end

/- SpecTgt -/
section
namespace Go.Larder
open Go.RowKit
set_option linter.unusedVariables false
set_option linter.unusedSimpArgs false
def freeTab : List UInt8 := [97, 98, 99, 100, 101, 102, 103, 104, 105, 106, 107, 108, 109, 110, 111, 112, 113, 114, 115, 116, 117, 118, 119, 120, 121, 122, 65, 66, 67, 68, 69, 70, 71, 72, 73, 74, 75, 76, 77, 78, 79, 80, 81, 82, 83, 84, 85, 86, 87, 88, 89, 90, 48, 49, 50, 51, 52, 53, 54, 55, 56, 57, 45, 46, 95, 126]
def dashL : List UInt8 := [45, 46, 95, 126]
def isFreeB (c : UInt8) : Bool := inTab freeTab c
theorem free_nat : ∀ n : Fin 256, isFreeB (UInt8.ofNat n.val) = (decide (97 ≤ n.val ∧ n.val ≤ 122) || decide (65 ≤ n.val ∧ n.val ≤ 90) || decide (48 ≤ n.val ∧ n.val ≤ 57) || inTab dashL (UInt8.ofNat n.val)) := by decide +kernel
theorem free_eq (c : UInt8) : isFreeB c = (decide (97 ≤ c.toNat ∧ c.toNat ≤ 122) || decide (65 ≤ c.toNat ∧ c.toNat ≤ 90) || decide (48 ≤ c.toNat ∧ c.toNat ≤ 57) || inTab dashL c) := by
  have := free_nat ⟨c.toNat, c.toNat_lt⟩
  simpa using this
def hexU : List UInt8 := [48, 49, 50, 51, 52, 53, 54, 55, 56, 57, 65, 66, 67, 68, 69, 70]
def hexAt (n : Nat) : UInt8 := hexU[n % 16]'(Nat.mod_lt _ (by decide))
def escL (c : UInt8) : List UInt8 := [37, hexAt (c.toNat / 16), hexAt (c.toNat % 16)]
def escC (c : UInt8) : List UInt8 := if isFreeB c then [c] else escL c
def escAll (l : List UInt8) : List UInt8 := l.flatMap escC
def escE (l : List UInt8) : Except Int (List UInt8) := if 200 < (escAll l).length then .error 2 else .ok (escAll l)
theorem escC_len (c : UInt8) : (escC c).length ≤ 3 := by unfold escC escL; split <;> simp
theorem escAll_len : ∀ l : List UInt8, (escAll l).length ≤ 3 * l.length
  | [] => by simp [escAll]
  | c :: l => by
    have := escAll_len l
    have := escC_len c
    unfold escAll at *
    simp at *; omega
theorem escAll_snoc {l : List UInt8} {k : Nat} {c : UInt8} (h : l[k]? = some c) : escAll (l.take (k + 1)) = escAll (l.take k) ++ escC c := by
  rw [List.take_add_one, h]; simp [escAll]
/-- A hex digit's value (-1: it is none). -/
def hexv (c : UInt8) : Int := if 48 ≤ c.toNat ∧ c.toNat ≤ 57 then (c.toNat : Int) - 48 else if 97 ≤ c.toNat ∧ c.toNat ≤ 102 then (c.toNat : Int) - 97 + 10 else if 65 ≤ c.toNat ∧ c.toNat ≤ 70 then (c.toNat : Int) - 65 + 10 else -1
def hexTab : List UInt8 := [48, 49, 50, 51, 52, 53, 54, 55, 56, 57, 97, 98, 99, 100, 101, 102, 65, 66, 67, 68, 69, 70]
def hexL : List UInt8 := [48, 49, 50, 51, 52, 53, 54, 55, 56, 57, 97, 98, 99, 100, 101, 102]
theorem hexv_nat : ∀ n : Fin 256, inTab hexTab (UInt8.ofNat n.val) = decide (0 ≤ hexv (UInt8.ofNat n.val)) := by decide +kernel
theorem hexv_tab (c : UInt8) : inTab hexTab c = decide (0 ≤ hexv c) := by
  have := hexv_nat ⟨c.toNat, c.toNat_lt⟩
  simpa using this
theorem hexv_low_nat : ∀ n : Fin 256, 0 ≤ hexv (UInt8.ofNat n.val) → Lib.indexByte hexL (lowB (UInt8.ofNat n.val)) = hexv (UInt8.ofNat n.val) := by decide +kernel
theorem hexv_low (c : UInt8) (h : 0 ≤ hexv c) : Lib.indexByte hexL (lowB c) = hexv c := by
  have := hexv_low_nat ⟨c.toNat, c.toNat_lt⟩
  simp only [UInt8.ofNat_toNat] at this
  exact this h
theorem hexv_lt (c : UInt8) : hexv c ≤ 15 := by unfold hexv; split <;> (try split) <;> (try split) <;> omega
def byteOf (a b : UInt8) : UInt8 := UInt8.ofNat (16 * hexv a + hexv b).toNat
def unGo : List UInt8 → List UInt8 → Option (List UInt8)
  | [], acc => some acc
  | c :: r, acc => if c = 37 then
      match r with
      | a :: b :: r' => if 0 ≤ hexv a ∧ 0 ≤ hexv b then unGo r' (acc ++ [byteOf a b]) else none
      | _ => none
    else unGo r (acc ++ [c])
theorem unGo_nil (acc : List UInt8) : unGo [] acc = some acc := by unfold unGo; rfl
theorem unGo_plain {c : UInt8} {r acc : List UInt8} (h : c ≠ 37) : unGo (c :: r) acc = unGo r (acc ++ [c]) := by
  conv => lhs; unfold unGo
  rw [if_neg h]
theorem unGo_esc {a b : UInt8} {r acc : List UInt8} (ha : 0 ≤ hexv a) (hb : 0 ≤ hexv b) : unGo (37 :: a :: b :: r) acc = unGo r (acc ++ [byteOf a b]) := by
  conv => lhs; unfold unGo
  rw [if_pos rfl]; simp only; rw [if_pos ⟨ha, hb⟩]
theorem unGo_bad {a b : UInt8} {r acc : List UInt8} (h : ¬ (0 ≤ hexv a ∧ 0 ≤ hexv b)) : unGo (37 :: a :: b :: r) acc = none := by
  conv => lhs; unfold unGo
  rw [if_pos rfl]; simp only; rw [if_neg h]
theorem unGo_short {r acc : List UInt8} (h : r.length < 2) : unGo (37 :: r) acc = none := by
  conv => lhs; unfold unGo
  rw [if_pos rfl]
  rcases r with _ | ⟨a, _ | ⟨b, r⟩⟩
  · rfl
  · rfl
  · simp at h; omega
def unE (l : List UInt8) : Except Int (List UInt8) := if 200 < l.length then .error 2 else match unGo l [] with
  | none => .error 3
  | some out => .ok out
end Go.Larder
end

/- SpecAny -/
section
namespace Go.Larder
set_option linter.unusedVariables false
set_option linter.unusedSimpArgs false
theorem cAny_cons (b : UInt8) (l : List UInt8) (chars : List UInt8) : Lib.containsAny (b :: l) chars = (chars.contains b || Lib.containsAny l chars) := by
  unfold Lib.containsAny
  have hge := Lib.indexAny_ge chars l
  conv => lhs; unfold Lib.indexAny
  cases hc : chars.contains b
  · simp only [Bool.false_eq_true, if_false, Bool.false_or]
    cases hi : (Lib.indexAny l chars == -1)
    · have : Lib.indexAny l chars ≠ -1 := by simpa using hi
      rw [Bool.eq_iff_iff]
      simp
      omega
    · have : Lib.indexAny l chars = -1 := by simpa using hi
      rw [this]
      rfl
  · rfl
theorem cAny_any (chars : List UInt8) : ∀ l, Lib.containsAny l chars = l.any chars.contains
  | [] => rfl
  | b :: l => by rw [cAny_cons, cAny_any chars l, List.any_cons]
/-- All bytes are plain and none of them is among chars. -/
theorem all_plain_but {f : UInt8 → Bool} {chars : List UInt8} (hf : ∀ c, f c = (isPl c && !chars.contains c)) (l : List UInt8) : l.all f = (l.all isPl && !Lib.containsAny l chars) := by
  rw [cAny_any]
  induction l with
  | nil => rfl
  | cons a l ih =>
    rw [List.all_cons, List.all_cons, List.any_cons, ih, hf]
    cases isPl a <;> cases chars.contains a <;> simp
theorem plain_asc_nat : ∀ n : Fin 256, isPl (UInt8.ofNat n.val) = true → decide ((UInt8.ofNat n.val).toNat < 128) = true := by decide +kernel
theorem plain_asc {l : List UInt8} (h : l.all isPl = true) : l.all (fun b => decide (b.toNat < 128)) = true := by
  rw [List.all_eq_true] at h ⊢
  intro x hx
  have := plain_asc_nat ⟨x.toNat, x.toNat_lt⟩
  simpa using this (by simpa using h x hx)
end Go.Larder
end

/- SpecNrm -/
section
namespace Go.Larder
open Go.RowKit
set_option linter.unusedVariables false
set_option linter.unusedSimpArgs false
abbrev EB := UInt8 × Bool
def unP : List UInt8 → List EB → Option (List EB)
  | [], acc => some acc
  | c :: r, acc => if c = 37 then
      match r with
      | a :: b :: r' => if 0 ≤ hexv a ∧ 0 ≤ hexv b then unP r' (acc ++ [(byteOf a b, true)]) else none
      | _ => none
    else unP r (acc ++ [(c, false)])
theorem unP_nil (acc : List EB) : unP [] acc = some acc := by unfold unP; rfl
theorem unP_plain {c : UInt8} {r : List UInt8} {acc : List EB} (h : c ≠ 37) : unP (c :: r) acc = unP r (acc ++ [(c, false)]) := by
  conv => lhs; unfold unP
  rw [if_neg h]
theorem unP_esc {a b : UInt8} {r : List UInt8} {acc : List EB} (ha : 0 ≤ hexv a) (hb : 0 ≤ hexv b) : unP (37 :: a :: b :: r) acc = unP r (acc ++ [(byteOf a b, true)]) := by
  conv => lhs; unfold unP
  rw [if_pos rfl]; simp only; rw [if_pos ⟨ha, hb⟩]
theorem unP_bad {a b : UInt8} {r : List UInt8} {acc : List EB} (h : ¬ (0 ≤ hexv a ∧ 0 ≤ hexv b)) : unP (37 :: a :: b :: r) acc = none := by
  conv => lhs; unfold unP
  rw [if_pos rfl]; simp only; rw [if_neg h]
theorem unP_short {r : List UInt8} {acc : List EB} (h : r.length < 2) : unP (37 :: r) acc = none := by
  conv => lhs; unfold unP
  rw [if_pos rfl]
  rcases r with _ | ⟨a, _ | ⟨b, r⟩⟩
  · rfl
  · rfl
  · simp at h; omega
theorem unP_len : ∀ (n : Nat) (l : List UInt8) (acc out : List EB), l.length ≤ n → unP l acc = some out → out.length ≤ acc.length + l.length
  | _, [], acc, out, _, h => by rw [unP_nil] at h; injection h with h; subst h; simp
  | 0, c :: r, acc, out, hn, h => by simp at hn
  | n + 1, c :: r, acc, out, hn, h => by
    simp only [List.length_cons] at hn
    by_cases hc : c = 37
    · subst hc
      rcases r with _ | ⟨a, _ | ⟨b, r⟩⟩
      · rw [unP_short (by simp)] at h; cases h
      · rw [unP_short (by simp)] at h; cases h
      · by_cases hh : 0 ≤ hexv a ∧ 0 ≤ hexv b
        · rw [unP_esc hh.1 hh.2] at h
          simp only [List.length_cons] at hn
          have := unP_len n r _ out (by omega) h
          simp at this ⊢; omega
        · rw [unP_bad hh] at h; cases h
    · rw [unP_plain hc] at h
      have := unP_len n r _ out (by omega) h
      simp at this ⊢; omega
theorem unP_head : ∀ (n : Nat) (l : List UInt8) (acc out : List EB), l.length ≤ n → unP l acc = some out → ∃ t, out = acc ++ t
  | _, [], acc, out, _, h => by rw [unP_nil] at h; injection h with h; subst h; exact ⟨[], by simp⟩
  | 0, c :: r, acc, out, hn, h => by simp at hn
  | n + 1, c :: r, acc, out, hn, h => by
    simp only [List.length_cons] at hn
    by_cases hc : c = 37
    · subst hc
      rcases r with _ | ⟨a, _ | ⟨b, r⟩⟩
      · rw [unP_short (by simp)] at h; cases h
      · rw [unP_short (by simp)] at h; cases h
      · by_cases hh : 0 ≤ hexv a ∧ 0 ≤ hexv b
        · rw [unP_esc hh.1 hh.2] at h
          simp only [List.length_cons] at hn
          obtain ⟨t, ht⟩ := unP_head n r _ out (by omega) h
          exact ⟨_, by rw [ht, List.append_assoc]⟩
        · rw [unP_bad hh] at h; cases h
    · rw [unP_plain hc] at h
      obtain ⟨t, ht⟩ := unP_head n r _ out (by omega) h
      exact ⟨_, by rw [ht, List.append_assoc]⟩
def emP (p : EB) : List UInt8 := if p.2 && !isFreeB p.1 then escL p.1 else [p.1]
def emAll (ps : List EB) : List UInt8 := ps.flatMap emP
theorem emP_len (p : EB) : (emP p).length ≤ 3 := by unfold emP escL; split <;> simp
theorem emAll_len : ∀ ps : List EB, (emAll ps).length ≤ 3 * ps.length
  | [] => by simp [emAll]
  | p :: ps => by
    have := emAll_len ps
    have := emP_len p
    unfold emAll at *
    simp at *; omega
theorem emAll_snoc (ps : List EB) (p : EB) : emAll (ps ++ [p]) = emAll ps ++ emP p := by simp [emAll]
theorem emP_plain (c : UInt8) : emP (c, false) = [c] := by simp [emP]
theorem emP_free {c : UInt8} (h : isFreeB c = true) : emP (c, true) = [c] := by simp [emP, h]
theorem emP_esc {c : UInt8} (h : isFreeB c = false) : emP (c, true) = escL c := by simp [emP, h]
/-- The steps without dots. -/
def nrm : List (List UInt8) → List (List UInt8) → List (List UInt8)
  | out, [] => out
  | out, s :: r =>
    if s = [46, 46] then (if r = [] then out.dropLast ++ [[]] else nrm out.dropLast r)
    else if s = [46] then (if r = [] then out ++ [[]] else nrm out r)
    else nrm (out ++ [s]) r
theorem nrm_nil (out : List (List UInt8)) : nrm out [] = out := by unfold nrm; rfl
theorem nrm_other {out r : List (List UInt8)} {s : List UInt8} (h2 : s ≠ [46, 46]) (h1 : s ≠ [46]) : nrm out (s :: r) = nrm (out ++ [s]) r := by
  conv => lhs; unfold nrm
  rw [if_neg h2, if_neg h1]
theorem nrm_one {out r : List (List UInt8)} (hr : r ≠ []) : nrm out ([46] :: r) = nrm out r := by
  conv => lhs; unfold nrm
  rw [if_neg (by simp), if_pos rfl, if_neg hr]
theorem nrm_one_end {out : List (List UInt8)} : nrm out [[46]] = out ++ [[]] := by
  conv => lhs; unfold nrm
  rw [if_neg (by simp), if_pos rfl, if_pos rfl]
theorem nrm_two {out r : List (List UInt8)} (hr : r ≠ []) : nrm out ([46, 46] :: r) = nrm out.dropLast r := by
  conv => lhs; unfold nrm
  rw [if_pos rfl, if_neg hr]
theorem nrm_two_end {out : List (List UInt8)} : nrm out [[46, 46]] = out.dropLast ++ [[]] := by
  conv => lhs; unfold nrm
  rw [if_pos rfl, if_pos rfl]
theorem nrm_empty {out : List (List UInt8)} : nrm out [[]] = out ++ [[]] := by
  rw [nrm_other (by simp) (by simp), nrm_nil]
/-- what the reference lays behind a step that is dots -/
def restR (r : List (List UInt8)) : List (List UInt8) := if r = [] then [[]] else r
theorem nrm_oneR {out r : List (List UInt8)} : nrm out ([46] :: r) = nrm out (restR r) := by
  unfold restR
  split
  · next h => subst h; rw [nrm_one_end, nrm_empty]
  · next h => exact nrm_one h
theorem nrm_twoR {out r : List (List UInt8)} : nrm out ([46, 46] :: r) = nrm out.dropLast (restR r) := by
  unfold restR
  split
  · next h => subst h; rw [nrm_two_end, nrm_empty]
  · next h => exact nrm_two h
theorem nrm_mem (m : Nat) : ∀ (r out : List (List UInt8)), (∀ x ∈ out, x.length ≤ m) → (∀ x ∈ r, x.length ≤ m) → ∀ x ∈ nrm out r, x.length ≤ m
  | [], out, h, _ => by rw [nrm_nil]; exact h
  | s :: r, out, h, hr => by
    have hd : ∀ x ∈ out.dropLast, x.length ≤ m := fun x hx => h x (List.dropLast_subset _ hx)
    have hr2 : ∀ x ∈ r, x.length ≤ m := fun x hx => hr x (by simp [hx])
    have hs := hr s (by simp)
    unfold nrm
    split
    · split
      · intro x hx
        rcases List.mem_append.1 hx with hx | hx
        · exact hd x hx
        · rw [List.mem_singleton] at hx; subst hx; simp
      · exact nrm_mem m r _ hd hr2
    · split
      · split
        · intro x hx
          rcases List.mem_append.1 hx with hx | hx
          · exact h x hx
          · rw [List.mem_singleton] at hx; subst hx; simp
        · exact nrm_mem m r _ h hr2
      · refine nrm_mem m r _ (fun x hx => ?_) hr2
        rcases List.mem_append.1 hx with hx | hx
        · exact h x hx
        · rw [List.mem_singleton] at hx; subst hx; exact hs
theorem nrm_len : ∀ (r out : List (List UInt8)), (nrm out r).length ≤ out.length + r.length
  | [], out => by rw [nrm_nil]; simp
  | s :: r, out => by
    have h1 := nrm_len r out.dropLast
    have h2 := nrm_len r out
    have h3 := nrm_len r (out ++ [s])
    simp only [List.length_dropLast, List.length_append, List.length_cons, List.length_nil] at *
    unfold nrm
    split
    · split
      · simp; omega
      · omega
    · split
      · split
        · simp
        · omega
      · omega
def isDot (s : List UInt8) : Bool := s == [46] || s == [46, 46]
def wt (s : List UInt8) : Nat := if isDot s then 2 else 1
def wts (l : List (List UInt8)) : Nat := (l.map wt).sum
theorem wts_rest (r : List (List UInt8)) (s : List UInt8) (h : isDot s = true) : wts (restR r) < wts (s :: r) := by
  unfold restR
  have h2 : wt s = 2 := by unfold wt; rw [if_pos h]
  split
  · next hr => subst hr; show wts [[]] < wts [s]; unfold wts; simp only [List.map_cons, List.map_nil, h2]; decide
  · simp [wts, h2]
theorem wts_cons (r : List (List UInt8)) (s : List UInt8) : wts r < wts (s :: r) := by
  have : 0 < wt s := by unfold wt; split <;> omega
  simp [wts]; omega
def okN (c : UInt8) : Bool := decide (33 ≤ c.toNat) && decide (c.toNat ≤ 126) && !(c == 35)
theorem okN_nat : ∀ n : Fin 256, okN (UInt8.ofNat n.val) = (isPl (UInt8.ofNat n.val) && !([32, 35, 9] : List UInt8).contains (UInt8.ofNat n.val)) := by decide +kernel
theorem okN_eq (c : UInt8) : okN c = (isPl c && !([32, 35, 9] : List UInt8).contains c) := by
  have := okN_nat ⟨c.toNat, c.toNat_lt⟩
  simpa using this
theorem okN_all (l : List UInt8) : l.all okN = (l.all isPl && !Lib.containsAny l [32, 35, 9]) := all_plain_but okN_eq l
/-- What is made of the bytes. -/
def nrmB (b : List UInt8) : List UInt8 := [47] ++ Lib.join (nrm [] (spl 47 (cut1 63 b).1.tail)) [47] ++ (if (cut1 63 b).2.2 then 63 :: (cut1 63 b).2.1 else [])
def nrmE (l : List UInt8) : Except Int (List UInt8) := if 200 < l.length then .error 2
  else if Lib.hasPrefix l [47] && l.all okN then (match unP l [] with | none => .error 3 | some ps => .ok (nrmB (emAll ps))) else .error 3
end Go.Larder
end

/- SpecNum -/
section
namespace Go.Larder
set_option linter.unusedVariables false
set_option linter.unusedSimpArgs false
/-- the number of a text of digits, or -1 -/
def nmGo (n : Int) : List UInt8 → Int
  | [] => n
  | c :: l => if inTab tensTab c = true then nmGo (10 * n + (c.toNat - 48)) l else -1
def nm (l : List UInt8) : Int := nmGo 0 l
theorem nmGo_yes {n : Int} {c : UInt8} {l : List UInt8} (h : inTab tensTab c = true) : nmGo n (c :: l) = nmGo (10 * n + (c.toNat - 48)) l := by rw [nmGo, if_pos h]
theorem nmGo_no {n : Int} {c : UInt8} {l : List UInt8} (h : inTab tensTab c = false) : nmGo n (c :: l) = -1 := by rw [nmGo, if_neg (by simp [h])]
/-- the reference's count -/
def cnt (s : List UInt8) (most : Int) : Int := if s.isEmpty || decide (18 < s.length) || (decide (1 < s.length) && s.head? == some 48) then -1 else if most < nm s then -1 else nm s
theorem digB' (x : UInt8) (h : inTab tensTab x = true) : 48 ≤ x.toNat ∧ x.toNat ≤ 57 := by rw [tens_eq] at h; exact of_decide_eq_true h
theorem digN' (x : UInt8) (h : inTab tensTab x = false) : ¬ (48 ≤ x.toNat ∧ x.toNat ≤ 57) := by rw [tens_eq] at h; exact of_decide_eq_false h
theorem pow10_le {k : Nat} (h : k ≤ 18) : (10 ^ k : Nat) ≤ 1000000000000000000 := Nat.pow_le_pow_right (by omega) h
theorem nmGo_bd : ∀ (l : List UInt8) (n : Int) (j : Nat), 0 ≤ n → n + 1 ≤ (10 ^ j : Nat) → -1 ≤ nmGo n l ∧ nmGo n l + 1 ≤ (10 ^ (j + l.length) : Nat)
  | [], n, j, h0, h1 => ⟨by simp only [nmGo]; omega, by simp only [nmGo]; simpa using h1⟩
  | c :: l, n, j, h0, h1 => by
    cases hc : inTab tensTab c
    · rw [nmGo_no hc]; have : 0 < (10 ^ (j + (c :: l).length) : Nat) := Nat.pow_pos (by omega); exact ⟨by omega, by omega⟩
    · obtain ⟨ha, hb⟩ := digB' c hc
      rw [nmGo_yes hc]
      have := nmGo_bd l (10 * n + (c.toNat - 48)) (j + 1) (by omega) (by rw [Nat.pow_succ]; omega)
      rw [List.length_cons, show j + (l.length + 1) = j + 1 + l.length from by omega]
      exact this
theorem nm_bd (l : List UInt8) (k : Nat) (h : l.length ≤ k) : -1 ≤ nm l ∧ nm l + 1 ≤ (10 ^ k : Nat) := by
  have := nmGo_bd l 0 0 (by omega) (by omega)
  rw [Nat.zero_add] at this
  have h2 : (10 ^ l.length : Nat) ≤ 10 ^ k := Nat.pow_le_pow_right (by omega) h
  exact ⟨this.1, by show nmGo 0 l + 1 ≤ _; omega⟩
theorem nm_all : ∀ (l : List UInt8) (n : Int), 0 ≤ n → (l.all (inTab tensTab) = true ↔ 0 ≤ nmGo n l)
  | [], n, h => by simp [nmGo, h]
  | c :: l, n, h => by
    cases hc : inTab tensTab c
    · rw [nmGo_no hc]; simp [hc]
    · obtain ⟨ha, hb⟩ := digB' c hc
      rw [nmGo_yes hc]
      have := nm_all l (10 * n + (c.toNat - 48)) (by omega)
      simp only [List.all_cons, hc, Bool.true_and]
      exact this
end Go.Larder
end

/- SpecDec -/
section
namespace Go.Larder
set_option linter.unusedSimpArgs false
set_option linter.unusedVariables false
theorem dec_step {n : Nat} (h : ¬ n < 10) : Lib.decDigits n = Lib.decDigits (n / 10) ++ [UInt8.ofNat (48 + n % 10)] := by rw [Lib.decDigits, dif_neg h]
theorem dig_nat (k : Nat) (h : k < 10) : (UInt8.ofNat (48 + k)).toNat = 48 + k := by rw [UInt8.toNat_ofNat']; omega
theorem dec_all (n : Nat) : ∀ x ∈ Lib.decDigits n, 48 ≤ x.toNat ∧ x.toNat ≤ 57 := by
  induction n using Nat.strongRecOn with
  | ind n ih =>
    intro x hx
    by_cases h : n < 10
    · rw [Lib.decDigits_one h, List.mem_singleton] at hx
      subst hx
      rw [dig_nat n h]; omega
    · rw [dec_step h, List.mem_append, List.mem_singleton] at hx
      rcases hx with hx | rfl
      · exact ih (n / 10) (by omega) x hx
      · rw [dig_nat _ (by omega)]; omega
theorem dec_ne (n : Nat) : Lib.decDigits n ≠ [] := by
  by_cases h : n < 10
  · rw [Lib.decDigits_one h]; simp
  · rw [dec_step h]; simp
theorem dec_head (n : Nat) (h0 : 1 ≤ n) : ∃ c r, Lib.decDigits n = c :: r ∧ c ≠ 48 := by
  induction n using Nat.strongRecOn with
  | ind n ih =>
    by_cases h : n < 10
    · refine ⟨_, [], Lib.decDigits_one h, fun hc => ?_⟩
      have := congrArg UInt8.toNat hc
      rw [dig_nat n h] at this
      have : (48 : UInt8).toNat = 48 := rfl
      omega
    · obtain ⟨c, r, e, hc⟩ := ih (n / 10) (by omega) (by omega)
      exact ⟨c, r ++ [UInt8.ofNat (48 + n % 10)], by rw [dec_step h, e]; rfl, hc⟩
theorem nmGo_snoc : ∀ (l : List UInt8) (n : Int) (c : UInt8), (∀ x ∈ l, inTab tensTab x = true) → inTab tensTab c = true → nmGo n (l ++ [c]) = 10 * nmGo n l + (c.toNat - 48)
  | [], n, c, _, hc => by rw [List.nil_append, nmGo_yes hc]; rfl
  | b :: l, n, c, h, hc => by
    rw [List.cons_append, nmGo_yes (h b (by simp)), nmGo_yes (h b (by simp))]
    exact nmGo_snoc l _ c (fun x hx => h x (by simp [hx])) hc
theorem dec_tens (n : Nat) : ∀ x ∈ Lib.decDigits n, inTab tensTab x = true := fun x hx => by rw [tens_eq]; exact decide_eq_true (dec_all n x hx)
theorem nm_dec (n : Nat) : nm (Lib.decDigits n) = n := by
  induction n using Nat.strongRecOn with
  | ind n ih =>
    by_cases h : n < 10
    · rw [Lib.decDigits_one h]
      unfold nm
      rw [nmGo_yes (by rw [tens_eq, dig_nat n h]; simp; omega), dig_nat n h]
      unfold nmGo; omega
    · rw [dec_step h]
      unfold nm
      rw [nmGo_snoc _ _ _ (dec_tens _) (by rw [tens_eq, dig_nat _ (by omega)]; simp; omega), dig_nat _ (by omega)]
      have := ih (n / 10) (by omega)
      unfold nm at this
      rw [this]; omega
theorem dec_inj {m n : Nat} (h : Lib.decDigits m = Lib.decDigits n) : m = n := by
  have a := nm_dec m
  rw [h, nm_dec n] at a
  omega
theorem dec_len18 {n : Nat} (h : n ≤ 99999) : (Lib.decDigits n).length ≤ 18 := by
  have e : ∀ m : Nat, m < 10 → (Lib.decDigits m).length = 1 := fun m hm => by rw [Lib.decDigits_one hm]; rfl
  have s : ∀ m : Nat, ¬ m < 10 → (Lib.decDigits m).length = (Lib.decDigits (m / 10)).length + 1 := fun m hm => by rw [dec_step hm]; simp
  by_cases h1 : n < 10
  · rw [e n h1]; omega
  · rw [s n h1]
    by_cases h2 : n / 10 < 10
    · rw [e _ h2]; omega
    · rw [s _ h2]
      by_cases h3 : n / 10 / 10 < 10
      · rw [e _ h3]; omega
      · rw [s _ h3]
        by_cases h4 : n / 10 / 10 / 10 < 10
        · rw [e _ h4]; omega
        · rw [s _ h4, e _ (by omega)]; omega
/-- the reference's count at a number's digits -/
theorem cnt_dec {n : Nat} {m : Int} (h : n ≤ 99999) (hm : (n : Int) ≤ m) : cnt (Lib.decDigits n) m = n := by
  unfold cnt
  rw [nm_dec, if_neg, if_neg (by omega)]
  have hl := dec_len18 h
  rcases Nat.lt_or_ge n 10 with h1 | h1
  · rw [Lib.decDigits_one h1]; simp
  · obtain ⟨c, r, e, hc⟩ := dec_head n (by omega)
    rw [e] at hl ⊢
    simp [hc]
    simpa using hl
theorem decFrom_snoc : ∀ (l : List UInt8) (acc n : Nat) (b : UInt8) (d : Nat), Lib.decFrom acc l = some n → Lib.digitVal b = some d → Lib.decFrom acc (l ++ [b]) = some (n * 10 + d)
  | [], acc, n, b, d, h, hb => by
    simp only [Lib.decFrom, Option.some.injEq] at h
    subst h
    simp [Lib.decFrom, hb]
  | a :: l, acc, n, b, d, h, hb => by
    simp only [Lib.decFrom, List.cons_append] at h ⊢
    cases ha : Lib.digitVal a with
    | none => simp [ha] at h
    | some e =>
      simp only [ha] at h ⊢
      exact decFrom_snoc l _ n b d h hb
theorem digVal_nat (k : Nat) (h : k < 10) : Lib.digitVal (UInt8.ofNat (48 + k)) = some k := by
  unfold Lib.digitVal
  rw [dig_nat k h, if_pos (by omega)]
  congr 1; omega
theorem decFrom_dec (n : Nat) : Lib.decFrom 0 (Lib.decDigits n) = some n := by
  induction n using Nat.strongRecOn with
  | ind n ih =>
    by_cases h : n < 10
    · rw [Lib.decDigits_one h]
      unfold Lib.decFrom
      rw [digVal_nat n h]
      simp [Lib.decFrom]
    · rw [dec_step h, decFrom_snoc _ _ _ _ _ (ih (n / 10) (by omega)) (digVal_nat _ (by omega))]
      congr 1; omega
theorem atoi_dec (n : Nat) : Lib.atoi (Lib.decDigits n) = some (n : Int) := by
  have hd := decFrom_dec n
  have ha := dec_all n
  have hne := dec_ne n
  generalize Lib.decDigits n = l at *
  cases l with
  | nil => exact absurd rfl hne
  | cons c r =>
    have h1 := ha c (by simp)
    have h45 : (c == 45) = false := by
      rw [beq_eq_false_iff_ne]; intro h; subst h; simp at h1
    have h43 : (c == 43) = false := by
      rw [beq_eq_false_iff_ne]; intro h; subst h; simp at h1
    simp only [Lib.atoi, h45, h43, Lib.decNat, List.isEmpty_cons, hd]
    rfl
theorem atoiAll_dec {n : Nat} (h : n ≤ 99999) : Lib.atoiAll (Lib.decDigits n) = .ok (n : Int) := by
  rw [Lib.atoiAll_short _ (dec_len18 h), atoi_dec]
  rfl
end Go.Larder
end

/- SpecCt -/
section
namespace Go.Larder
set_option linter.unusedSimpArgs false
set_option linter.unusedVariables false
abbrev dL (n : Int) : List UInt8 := Lib.decDigits n.toNat
def ctOK (a b z : Int) : Bool := decide (0 ≤ a) && decide (a < b) && decide (b ≤ z) && decide (z ≤ 99999)
def ctPre : List UInt8 := [98, 121, 116, 101, 115, 32]
def ctL (a b z : Int) : List UInt8 := ctPre ++ dL a ++ [45] ++ dL (b - 1) ++ [47] ++ dL z
def ctE (a b z : Int) : Except Int (List UInt8) := if ctOK a b z = true then .ok (ctL a b z) else .error 1
theorem ctOK_iff {a b z : Int} : ctOK a b z = true ↔ 0 ≤ a ∧ a < b ∧ b ≤ z ∧ z ≤ 99999 := by unfold ctOK; simp; omega
/-- The text tells the part from a to b of z bytes. -/
def isCt (a b z : Int) (s : List UInt8) : Prop := ctOK a b z = true ∧ ctL a b z = s
theorem dL_not {n : Int} {c : UInt8} (hc : c.toNat < 48 ∨ 57 < c.toNat) : ∀ x ∈ dL n, x ≠ c := fun x hx e => by
  have := dec_all n.toNat x hx
  subst e; omega
theorem ct_len {a b z : Int} (h : ctOK a b z = true) : (ctL a b z).length ≤ 70 := by
  rw [ctOK_iff] at h
  have h1 := dec_len18 (n := a.toNat) (by omega)
  have h2 := dec_len18 (n := (b - 1).toNat) (by omega)
  have h3 := dec_len18 (n := z.toNat) (by omega)
  simp only [ctL, ctPre, List.length_append, List.length_cons, List.length_nil, dL]
  omega
/-- the part's numbers, read off by cuts -/
theorem ct_cuts {a b z : Int} {s : List UInt8} (h : isCt a b z s) : ∃ r, s = ctPre ++ r ∧ cut1 47 r = (dL a ++ 45 :: dL (b - 1), dL z, true) ∧ cut1 45 (dL a ++ 45 :: dL (b - 1)) = (dL a, dL (b - 1), true) := by
  obtain ⟨_, rfl⟩ := h
  refine ⟨(dL a ++ 45 :: dL (b - 1)) ++ 47 :: dL z, by simp [ctL, List.append_assoc], ?_, ?_⟩
  · exact cut1_app _ (fun x hx => by
      rw [List.mem_append, List.mem_cons] at hx
      rcases hx with hx | rfl | hx
      · exact dL_not (by decide) x hx
      · decide
      · exact dL_not (by decide) x hx)
  · exact cut1_app _ (dL_not (by decide))
theorem ct_unique {a b z a' b' z' : Int} {s : List UInt8} (h : isCt a b z s) (h' : isCt a' b' z' s) : a = a' ∧ b = b' ∧ z = z' := by
  obtain ⟨r, e, c1, c2⟩ := ct_cuts h
  obtain ⟨r', e', c1', c2'⟩ := ct_cuts h'
  have hr : r = r' := by rw [e] at e'; exact List.append_cancel_left e'
  subst hr
  rw [c1] at c1'
  injection c1' with q1 q2
  injection q2 with q2 _
  rw [q1] at c2
  rw [c2] at c2'
  injection c2' with q3 q4
  injection q4 with q4 _
  have k1 := ctOK_iff.1 h.1
  have k2 := ctOK_iff.1 h'.1
  have := dec_inj q3
  have := dec_inj q4
  have := dec_inj q2
  omega
end Go.Larder
end

/- SpecCtr -/
section
namespace Go.Larder
set_option linter.unusedSimpArgs false
set_option linter.unusedVariables false
theorem ix_app {c : UInt8} {p r : List UInt8} (h : ∀ x ∈ p, x ≠ c) : Lib.indexByte (p ++ c :: r) c = (p.length : Int) := by
  have hc := cut1_app r h
  rcases ixb_cases (p ++ c :: r) c with h1 | ⟨k, h1⟩
  · rw [cut1_none h1] at hc
    injection hc with _ hc
    injection hc with _ hc
    cases hc
  · obtain ⟨h2, h3⟩ := cut1_at h1
    rw [h2] at hc
    injection hc with hc _
    have := congrArg List.length hc
    rw [List.length_take] at this
    rw [h1]
    omega
theorem cnt_bd (l : List UInt8) (m : Int) (hm : -1 ≤ m) : -1 ≤ cnt l m ∧ cnt l m ≤ m := by
  unfold cnt
  split
  · omega
  · next h =>
    simp at h
    have := nm_bd l l.length (Nat.le_refl _)
    split <;> omega
def sg (l : List UInt8) (a b : Nat) : List UInt8 := (l.drop a).take (b - a)
structure CtAt (a b z : Int) (s : List UInt8) (i j : Nat) : Prop where
  i6 : 6 ≤ i
  ij : i < j
  jl : j < s.length
  ix : Lib.indexByte s 45 = (i : Int)
  jx : Lib.indexByte s 47 = (j : Int)
  s1 : sg s 6 i = dL a
  s2 : sg s (i + 1) j = dL (b - 1)
  s3 : s.drop (j + 1) = dL z
theorem ct_at {a b z : Int} {s : List UInt8} (h : isCt a b z s) : ∃ i j, CtAt a b z s i j := by
  obtain ⟨hk, rfl⟩ := h
  have e1 : ctL a b z = (ctPre ++ dL a) ++ 45 :: (dL (b - 1) ++ 47 :: dL z) := by simp [ctL, List.append_assoc]
  have e2 : ctL a b z = (ctPre ++ dL a ++ 45 :: dL (b - 1)) ++ 47 :: dL z := by simp [ctL, List.append_assoc]
  have n1 : ∀ x ∈ ctPre ++ dL a, x ≠ 45 := fun x hx => by
    rw [List.mem_append] at hx
    rcases hx with hx | hx
    · revert x hx; decide
    · exact dL_not (by decide) x hx
  have n2 : ∀ x ∈ ctPre ++ dL a ++ 45 :: dL (b - 1), x ≠ 47 := fun x hx => by
    rw [List.mem_append, List.mem_append, List.mem_cons] at hx
    rcases hx with (hx | hx) | rfl | hx
    · revert x hx; decide
    · exact dL_not (by decide) x hx
    · decide
    · exact dL_not (by decide) x hx
  have hp : ctPre.length = 6 := rfl
  refine ⟨6 + (dL a).length, 6 + (dL a).length + 1 + (dL (b - 1)).length, by omega, by omega, ?_, ?_, ?_, ?_, ?_, ?_⟩
  · rw [e2]; simp only [List.length_append, List.length_cons, hp]; omega
  · rw [e1, ix_app n1, List.length_append, hp]
  · rw [e2, ix_app n2]; simp only [List.length_append, List.length_cons, hp]; omega
  · unfold sg
    rw [e1, List.append_assoc, List.drop_left' hp, List.take_left' (by omega)]
  · unfold sg
    rw [show ctL a b z = (ctPre ++ dL a ++ [45]) ++ (dL (b - 1) ++ 47 :: dL z) from by simp [ctL, List.append_assoc], List.drop_left' (by simp [hp]; omega), List.take_left' (by omega)]
  · rw [show ctL a b z = (ctPre ++ dL a ++ 45 :: dL (b - 1) ++ [47]) ++ dL z from by simp [ctL, List.append_assoc], List.drop_left' (by simp [hp]; omega)]
/-- what the reference reads -/
def rA (s : List UInt8) (i : Nat) : Int := cnt (sg s 6 i) 99999
def rB (s : List UInt8) (i j : Nat) : Int := cnt (sg s (i + 1) j) 99999
def rZ (s : List UInt8) (j : Nat) : Int := cnt (s.drop (j + 1)) 99999
theorem CtAt.nums {a b z : Int} {s : List UInt8} {i j : Nat} (hk : ctOK a b z = true) (h : CtAt a b z s i j) : rA s i = a ∧ rB s i j = b - 1 ∧ rZ s j = z := by
  rw [ctOK_iff] at hk
  unfold rA rB rZ
  rw [h.s1, h.s2, h.s3]
  have d := fun (n : Int) (h0 : 0 ≤ n) (h1 : n ≤ 99999) => cnt_dec (n := n.toNat) (m := 99999) (by omega) (by omega)
  rw [d a (by omega) (by omega), d (b - 1) (by omega) (by omega), d z (by omega) (by omega)]
  omega
end Go.Larder
end

/- SpecWnt -/
section
namespace Go.Larder
open Go.RowKit
set_option linter.unusedVariables false
set_option linter.unusedSimpArgs false
theorem sgn_not {n : Int} : ∀ x ∈ sgnL n, x ≠ 45 := fun x hx e => by
  unfold sgnL at hx
  split at hx
  · simp at hx
  · exact dL_not (n := n) (c := 45) (by decide) x hx e
theorem cnt_nil (m : Int) : cnt [] m = -1 := by simp [cnt]
theorem cnt_sgn {n : Int} (h0 : -1 ≤ n) (h1 : n ≤ 99999) : cnt (sgnL n) 99999 = n := by
  unfold sgnL
  split
  · rw [cnt_nil]; omega
  · have := cnt_dec (n := n.toNat) (m := 99999) (by omega) (by omega)
    rw [this]; omega
theorem sgn_nil {n : Int} (h : sgnL n = []) : n < 0 := by
  unfold sgnL at h
  split at h
  · assumption
  · exact absurd h (dec_ne _)
theorem sgn_dL {n : Int} (h : 0 ≤ n) : sgnL n = dL n := by unfold sgnL; rw [if_neg (by omega)]
theorem sgn_neg : sgnL (-1) = [] := by unfold sgnL; rw [if_pos (by omega)]
/-- where the dash stands, and the two numbers -/
def wK (t : List UInt8) : Int := Lib.indexByte t 45
def wA (t : List UInt8) : Int := cnt (t.take (wK t).toNat) 99999
def wB (t : List UInt8) : Int := cnt (t.drop ((wK t).toNat + 1)) 99999
/-- A range that a text tells. -/
def wOf (t : List UInt8) : Option (Int × Int) := if 0 ≤ wK t ∧ isWant (wA t, wB t) = true ∧ wantS (wA t, wB t) = t then some (wA t, wB t) else none
theorem wOf_some {t : List UInt8} {w : Int × Int} (h : wOf t = some w) : isWant w = true ∧ wantS w = t := by
  unfold wOf at h
  split at h
  · next hc => injection h with h; subst h; exact hc.2
  · cases h
theorem wantS_at (a b : Int) : wantS (a, b) = sgnL a ++ 45 :: sgnL b := by simp [wantS]
theorem wOf_mk {a b : Int} (h : isWant (a, b) = true) : wOf (sgnL a ++ 45 :: sgnL b) = some (a, b) := by
  obtain ⟨a0, a1, b0, b1, _⟩ := want_bd h
  have hk : wK (sgnL a ++ 45 :: sgnL b) = ((sgnL a).length : Int) := ix_app (sgn_not (n := a))
  have ha : wA (sgnL a ++ 45 :: sgnL b) = a := by
    unfold wA
    rw [hk, Int.toNat_natCast, List.take_left, cnt_sgn a0 a1]
  have hb : wB (sgnL a ++ 45 :: sgnL b) = b := by
    unfold wB
    rw [hk, Int.toNat_natCast, ← List.drop_drop, List.drop_left, List.drop_succ_cons, List.drop_zero, cnt_sgn b0 b1]
  unfold wOf
  rw [ha, hb, hk, if_pos ⟨by omega, h, wantS_at a b⟩]
/-- What the two sides of the dash say: nothing, or just the digits of a number. -/
structure Side (s : List UInt8) (n : Int) (ok : Bool) : Prop where
  yes : ok = true → -1 ≤ n ∧ n ≤ 99999 ∧ s = sgnL n
  all : ∀ m : Int, -1 ≤ m → m ≤ 99999 → s = sgnL m → ok = true ∧ n = m
theorem want_law {t f l : List UInt8} {is : Bool} (hc : cut1 45 t = (f, l, is)) {a b : Int} {k1 k2 : Bool} (h1 : Side f a k1) (h2 : Side l b k2) :
    (is && k1 && k2 && isWant (a, b)) = (wOf t).isSome ∧ ∀ w, wOf t = some w → w = (a, b) := by
  have key : ∀ w, wOf t = some w → is = true ∧ k1 = true ∧ k2 = true ∧ w = (a, b) := by
    rintro ⟨x, y⟩ hw
    obtain ⟨g1, g2⟩ := wOf_some hw
    obtain ⟨a0, a1, b0, b1, _⟩ := want_bd g1
    rw [wantS_at] at g2
    rw [← g2, cut1_app _ (sgn_not (n := x))] at hc
    injection hc with e1 e2
    injection e2 with e2 e3
    obtain ⟨q1, q2⟩ := h1.all x a0 a1 e1.symm
    obtain ⟨q3, q4⟩ := h2.all y b0 b1 e2.symm
    exact ⟨e3.symm, q1, q3, by rw [q2, q4]⟩
  refine ⟨?_, fun w hw => (key w hw).2.2.2⟩
  cases hz : wOf t with
  | some w =>
    obtain ⟨q1, q2, q3, q4⟩ := key w hz
    have := (wOf_some hz).1
    rw [q4] at this
    simp [q1, q2, q3, this]
  | none =>
    cases hg : (is && k1 && k2 && isWant (a, b))
    · rfl
    · exfalso
      simp only [Bool.and_eq_true] at hg
      obtain ⟨⟨⟨q1, q2⟩, q3⟩, q4⟩ := hg
      obtain ⟨_, _, e1⟩ := h1.yes q2
      obtain ⟨_, _, e2⟩ := h2.yes q3
      have := (cut1_true (c := 45) (l := t) (by rw [hc]; exact q1)).1
      rw [hc] at this
      simp only at this
      rw [e1, e2] at this
      rw [this, wOf_mk q4] at hz
      cases hz
/-- all of them, or none -/
def wAll : List (List UInt8) → Option (List (Int × Int))
  | [] => some []
  | t :: r => match wOf (trim t) with
    | none => none
    | some w => (wAll r).map (w :: ·)
/-- Ranges, read. -/
def spnE (s : List UInt8) : Except Int (List (Int × Int)) :=
  if s.take 6 = bytesEq then (match wAll (spl 44 (s.drop 6)) with
    | none => .error 3
    | some l => if 20 < l.length then .error 2 else .ok l) else .error 3
theorem wAll_app (xs ys : List (List UInt8)) : wAll (xs ++ ys) = match wAll xs with
    | none => none
    | some l => (wAll ys).map (l ++ ·) := by
  induction xs with
  | nil => simp [wAll]
  | cons t r ih =>
    simp only [List.cons_append, wAll]
    cases wOf (trim t) with
    | none => rfl
    | some w =>
      simp only [ih]
      cases wAll r with
      | none => rfl
      | some l => simp only [Option.map_some]; cases wAll ys <;> rfl
theorem wAll_bad {xs ys : List (List UInt8)} {t : List UInt8} (h : wOf (trim t) = none) : wAll (xs ++ t :: ys) = none := by
  rw [wAll_app]
  cases wAll xs with
  | none => rfl
  | some l => simp [wAll, h]
theorem wAll_snoc {xs : List (List UInt8)} {t : List UInt8} {l : List (Int × Int)} {w : Int × Int} (h : wAll xs = some l) (hw : wOf (trim t) = some w) : wAll (xs ++ [t]) = some (l ++ [w]) := by
  rw [wAll_app, h]; simp [wAll, hw]
theorem wAll_len : ∀ {xs : List (List UInt8)} {l : List (Int × Int)}, wAll xs = some l → l.length = xs.length
  | [], l, h => by simp only [wAll] at h; injection h with h; subst h; rfl
  | t :: r, l, h => by
    simp only [wAll] at h
    cases hw : wOf (trim t) with
    | none => simp [hw] at h
    | some w =>
      simp only [hw] at h
      cases hr : wAll r with
      | none => simp [hr] at h
      | some m => simp only [hr, Option.map_some] at h; injection h with h; subst h; simp [wAll_len hr]
theorem spn_len {s : List UInt8} {l : List (Int × Int)} (h : spnE s = .ok l) : l.length ≤ 20 := by
  unfold spnE at h
  split at h
  · split at h
    · cases h
    · split at h
      · cases h
      · injection h with h; subst h; omega
  · cases h
end Go.Larder
end

/- SpecChk -/
section
namespace Go.Larder
open Go.RowKit
set_option linter.unusedVariables false
set_option linter.unusedSimpArgs false
def gear (c : UInt8) : Nat := (((c.toNat + 1) * 2654435761 % 4294967296 ^^^ (c.toNat + 1) * 2654435761 % 4294967296 / 32768) * 2246822519 % 4294967296) ^^^ (((c.toNat + 1) * 2654435761 % 4294967296 ^^^ (c.toNat + 1) * 2654435761 % 4294967296 / 32768) * 2246822519 % 4294967296) / 8192
theorem gear_lt (c : UInt8) : gear c < 4294967296 := by
  unfold gear
  have h1 : ((((c.toNat + 1) * 2654435761 % 4294967296 ^^^ (c.toNat + 1) * 2654435761 % 4294967296 / 32768) * 2246822519 % 4294967296)) < 2 ^ 32 := Nat.mod_lt _ (by omega)
  generalize ((((c.toNat + 1) * 2654435761 % 4294967296 ^^^ (c.toNat + 1) * 2654435761 % 4294967296 / 32768) * 2246822519 % 4294967296)) = y at *
  have h2 : y / 8192 < 2 ^ 32 := by omega
  have := Nat.xor_lt_two_pow h1 h2
  omega
def gearN (n : Nat) : Nat := (((n + 1) * 2654435761 % 4294967296 ^^^ (n + 1) * 2654435761 % 4294967296 / 32768) * 2246822519 % 4294967296) ^^^ (((n + 1) * 2654435761 % 4294967296 ^^^ (n + 1) * 2654435761 % 4294967296 / 32768) * 2246822519 % 4294967296) / 8192
theorem gear_walk1 : ∀ n : Fin 256, bits BinOp.xor IntKind.u32 (bits BinOp.xor IntKind.u32 (((n.val : Int) + 1) % 4294967296 * 2654435761 % 4294967296) (((n.val : Int) + 1) % 4294967296 * 2654435761 % 4294967296 / 32768) * 2246822519 % 4294967296) (bits BinOp.xor IntKind.u32 (((n.val : Int) + 1) % 4294967296 * 2654435761 % 4294967296) (((n.val : Int) + 1) % 4294967296 * 2654435761 % 4294967296 / 32768) * 2246822519 % 4294967296 / 8192) = (gearN n.val : Nat) := by decide +kernel
def gearR (n : Int) : Int := bits BinOp.xor IntKind.u32 ((IntKind.u64.wrap (IntKind.u64.wrap (bits BinOp.xor IntKind.u32 ((IntKind.u64.wrap (IntKind.u64.wrap (IntKind.u64.wrap n + 1) * 2654435761)).tmod 4294967296 % 4294967296) ((IntKind.u64.wrap (IntKind.u64.wrap (IntKind.u64.wrap n + 1) * 2654435761)).tmod 4294967296 % 4294967296 / 32768)) * 2246822519)).tmod 4294967296 % 4294967296) ((IntKind.u64.wrap (IntKind.u64.wrap (bits BinOp.xor IntKind.u32 ((IntKind.u64.wrap (IntKind.u64.wrap (IntKind.u64.wrap n + 1) * 2654435761)).tmod 4294967296 % 4294967296) ((IntKind.u64.wrap (IntKind.u64.wrap (IntKind.u64.wrap n + 1) * 2654435761)).tmod 4294967296 % 4294967296 / 32768)) * 2246822519)).tmod 4294967296 % 4294967296 / 8192)
theorem gear_walk2 : ∀ n : Fin 256, gearR (n.val : Int) = (gearN n.val : Nat) := by decide +kernel
theorem gear1 (c : UInt8) : bits BinOp.xor IntKind.u32 (bits BinOp.xor IntKind.u32 (((c.toNat : Int) + 1) % 4294967296 * 2654435761 % 4294967296) (((c.toNat : Int) + 1) % 4294967296 * 2654435761 % 4294967296 / 32768) * 2246822519 % 4294967296) (bits BinOp.xor IntKind.u32 (((c.toNat : Int) + 1) % 4294967296 * 2654435761 % 4294967296) (((c.toNat : Int) + 1) % 4294967296 * 2654435761 % 4294967296 / 32768) * 2246822519 % 4294967296 / 8192) = (gear c : Nat) := gear_walk1 ⟨c.toNat, c.toNat_lt⟩
theorem gear2 (c : UInt8) : gearR c.toNat = (gear c : Nat) := gear_walk2 ⟨c.toNat, c.toNat_lt⟩
def sumF (s : Nat) (b : UInt8) : Nat := (2 * s + gear b) % 4294967296
def sumC (s : Nat) (l : List UInt8) : Nat := l.foldl sumF s
theorem sumC_cons (s : Nat) (b : UInt8) (l : List UInt8) : sumC s (b :: l) = sumC (sumF s b) l := rfl
theorem sumC_one (s : Nat) (b : UInt8) : sumC s [b] = sumF s b := by rw [sumC_cons]; unfold sumC; rw [List.foldl_nil]
theorem sumC_app (s : Nat) (l m : List UInt8) : sumC s (l ++ m) = sumC (sumC s l) m := by unfold sumC; rw [List.foldl_append]
theorem sumF_lt (s : Nat) (b : UInt8) : sumF s b < 4294967296 := Nat.mod_lt _ (by omega)
theorem sumC_lt {s : Nat} (hs : s < 4294967296) (l : List UInt8) : sumC s l < 4294967296 := by
  induction l generalizing s with
  | nil => exact hs
  | cons b l ih => rw [sumC_cons]; exact ih (sumF_lt _ _)
theorem sumC_shift (l : List UInt8) : ∀ s t : Nat, s < 4294967296 → t < 4294967296 → (s * 2 ^ l.length) % 4294967296 = (t * 2 ^ l.length) % 4294967296 → sumC s l = sumC t l := by
  induction l with
  | nil => intro s t hs ht h; simp at h; rw [Nat.mod_eq_of_lt hs, Nat.mod_eq_of_lt ht] at h; simpa [sumC] using h
  | cons b l ih =>
    intro s t hs ht h
    rw [sumC_cons, sumC_cons]
    refine ih _ _ (sumF_lt _ _) (sumF_lt _ _) ?_
    rw [List.length_cons] at h
    unfold sumF
    have e : ∀ x : Nat, (2 * x + gear b) % 4294967296 * 2 ^ l.length % 4294967296 = (x * 2 ^ (l.length + 1) % 4294967296 + gear b * 2 ^ l.length) % 4294967296 := by
      intro x
      rw [Nat.mod_mul_mod, Nat.add_mul, Nat.pow_succ, Nat.mod_add_mod, Nat.mul_comm 2 x, Nat.mul_assoc, Nat.mul_comm 2]
    rw [e, e, h]
/-- the last 32 bytes alone count -/
theorem sumC_last {l m : List UInt8} (hm : 32 ≤ m.length) : sumC 0 (l ++ m) = sumC 0 m := by
  rw [sumC_app]
  refine sumC_shift m _ _ (sumC_lt (by omega) l) (by omega) ?_
  obtain ⟨d, hd⟩ : ∃ d, m.length = 32 + d := ⟨m.length - 32, by omega⟩
  rw [hd, Nat.pow_add, show (2 : Nat) ^ 32 = 4294967296 from rfl, ← Nat.mul_assoc, Nat.mul_right_comm, Nat.mul_mod_left]
  simp
def isCut (n sum : Nat) : Bool := decide (16 ≤ n) && (decide (sum < 134217728) || n == 128)
/-- the sum, the pieces, what is left -/
abbrev CkS := Nat × List (List UInt8) × List UInt8
def ckStep (st : CkS) (b : UInt8) : CkS :=
  if isCut (st.2.2.length + 1) (sumF st.1 b) = true then (sumF st.1 b, st.2.1 ++ [st.2.2 ++ [b]], []) else (sumF st.1 b, st.2.1, st.2.2 ++ [b])
def ckAll (st : CkS) (l : List UInt8) : CkS := l.foldl ckStep st
def ck (l : List UInt8) : CkS := ckAll (0, [], []) l
theorem ck_yes {st : CkS} {b : UInt8} (h : isCut (st.2.2.length + 1) (sumF st.1 b) = true) : ckStep st b = (sumF st.1 b, st.2.1 ++ [st.2.2 ++ [b]], []) := by unfold ckStep; rw [if_pos h]
theorem ck_no {st : CkS} {b : UInt8} (h : isCut (st.2.2.length + 1) (sumF st.1 b) = false) : ckStep st b = (sumF st.1 b, st.2.1, st.2.2 ++ [b]) := by unfold ckStep; rw [if_neg (by rw [h]; simp)]
theorem ck_sum (st : CkS) (l : List UInt8) : (ckAll st l).1 = sumC st.1 l := by
  induction l generalizing st with
  | nil => rfl
  | cons b l ih =>
    change (ckAll (ckStep st b) l).1 = _
    rw [ih, sumC_cons]
    congr 1
    unfold ckStep
    split <;> rfl
theorem ck_app (st : CkS) (l m : List UInt8) : ckAll st (l ++ m) = ckAll (ckAll st l) m := by unfold ckAll; rw [List.foldl_append]
theorem ck_snoc (st : CkS) (l : List UInt8) (b : UInt8) : ckAll st (l ++ [b]) = ckStep (ckAll st l) b := by rw [ck_app]; rfl
/-- pieces and rest are the text -/
theorem ck_text (st : CkS) (l : List UInt8) : (ckAll st l).2.1.flatten ++ (ckAll st l).2.2 = st.2.1.flatten ++ st.2.2 ++ l := by
  induction l generalizing st with
  | nil => simp [ckAll]
  | cons b l ih =>
    change (ckAll (ckStep st b) l).2.1.flatten ++ (ckAll (ckStep st b) l).2.2 = _
    rw [ih]
    unfold ckStep
    split <;> simp
/-- what was given stays -/
theorem ck_pref (st : CkS) (l : List UInt8) : ∃ q, (ckAll st l).2.1 = st.2.1 ++ q := by
  induction l generalizing st with
  | nil => exact ⟨[], by simp [ckAll]⟩
  | cons b l ih =>
    obtain ⟨q, hq⟩ := ih (ckStep st b)
    change ∃ q, (ckAll (ckStep st b) l).2.1 = _
    rw [hq]
    unfold ckStep
    split
    · exact ⟨_, List.append_assoc _ _ _⟩
    · exact ⟨_, rfl⟩
/-- what was given does not count -/
theorem ck_out (s : Nat) (o r l : List _) : ckAll (s, o, r) l = ((ckAll (s, [], r) l).1, o ++ (ckAll (s, [], r) l).2.1, (ckAll (s, [], r) l).2.2) := by
  induction l generalizing s o r with
  | nil => simp [ckAll]
  | cons b l ih =>
    change ckAll (ckStep (s, o, r) b) l = ((ckAll (ckStep (s, [], r) b) l).1, o ++ (ckAll (ckStep (s, [], r) b) l).2.1, (ckAll (ckStep (s, [], r) b) l).2.2)
    cases h : isCut (r.length + 1) (sumF s b)
    · rw [ck_no (st := (s, o, r)) h, ck_no (st := (s, [], r)) h]
      exact ih _ _ _
    · rw [ck_yes (st := (s, o, r)) h, ck_yes (st := (s, [], r)) h]
      rw [ih _ (o ++ _), ih _ ([] ++ _)]
      simp
theorem ck_rest (st : CkS) (hs : st.2.2.length < 128) (l : List UInt8) : (ckAll st l).2.2.length < 128 := by
  induction l generalizing st with
  | nil => exact hs
  | cons b l ih =>
    refine ih (ckStep st b) ?_
    cases h : isCut (st.2.2.length + 1) (sumF st.1 b)
    · rw [ck_no h]
      simp only [List.length_append, List.length_cons, List.length_nil]
      unfold isCut at h
      rcases Nat.lt_or_ge (st.2.2.length + 1) 128 with h1 | h1
      · omega
      · have h2 : st.2.2.length + 1 = 128 := by omega
        rw [h2] at h
        simp at h
    · rw [ck_yes h]; simp
theorem ck_len (st : CkS) (l : List UInt8) : (ckAll st l).2.1.length ≤ st.2.1.length + l.length := by
  induction l generalizing st with
  | nil => simp [ckAll]
  | cons b l ih =>
    have h := ih (ckStep st b)
    change (ckAll (ckStep st b) l).2.1.length ≤ _
    have h2 : (ckStep st b).2.1.length ≤ st.2.1.length + 1 := by unfold ckStep; split <;> simp
    simp only [List.length_cons]
    omega
theorem ck_len16 (st : CkS) (l : List UInt8) : 16 * (ckAll st l).2.1.length + (ckAll st l).2.2.length ≤ 16 * st.2.1.length + st.2.2.length + l.length := by
  induction l generalizing st with
  | nil => simp [ckAll]
  | cons b l ih =>
    have h := ih (ckStep st b)
    change 16 * (ckAll (ckStep st b) l).2.1.length + (ckAll (ckStep st b) l).2.2.length ≤ _
    have h2 : 16 * (ckStep st b).2.1.length + (ckStep st b).2.2.length ≤ 16 * st.2.1.length + st.2.2.length + 1 := by
      cases hc : isCut (st.2.2.length + 1) (sumF st.1 b)
      · rw [ck_no hc]; simp; omega
      · rw [ck_yes hc]
        unfold isCut at hc
        simp only [Bool.and_eq_true, decide_eq_true_eq] at hc
        simp
        omega
    simp only [List.length_cons]
    omega
/-- pieces -/
def tailP (r : List UInt8) : List (List UInt8) := if r = [] then [] else [r]
def cutC (l : List UInt8) : List (List UInt8) := (ck l).2.1 ++ tailP (ck l).2.2
theorem cutC_flat (l : List UInt8) : (cutC l).flatten = l := by
  have h := ck_text (0, [], []) l
  simp only [List.flatten_nil, List.nil_append] at h
  unfold cutC tailP ck
  split
  · next h0 => rw [h0] at h; simpa using h
  · simpa using h
theorem cutC_x (l : List UInt8) : (cutC (l ++ [120])).length = (ck l).2.1.length + 1 := by
  unfold cutC ck
  rw [ck_snoc]
  cases h : isCut ((ckAll (0, [], []) l).2.2.length + 1) (sumF (ckAll (0, [], []) l).1 120)
  · rw [ck_no h]; simp [tailP]
  · rw [ck_yes h]; simp [tailP]
theorem cutC_x_nil {l : List UInt8} (h : (ck l).2.2 = []) : cutC (l ++ [120]) = (ck l).2.1 ++ [[120]] := by
  unfold cutC ck at *
  rw [ck_snoc, ck_no (by rw [h]; simp [isCut]), h]
  simp [tailP]
theorem ck_take_step {s : List UInt8} {k : Nat} {x : UInt8} (h : s[k]? = some x) : ck (s.take (k + 1)) = ckStep (ck (s.take k)) x := by
  unfold ck
  rw [List.take_add_one, h]
  exact ck_snoc _ _ _
theorem ck_len_eq {s : List UInt8} {k sm : Nat} {o : List (List UInt8)} {r : List UInt8} (hk : k ≤ s.length) (h : ck (s.take k) = (sm, o, r)) : o.flatten.length + r.length = k ∧ s.take k = o.flatten ++ r := by
  have h2 := ck_text (0, [], []) (s.take k)
  unfold ck at h
  rw [h] at h2
  simp only [List.flatten_nil, List.nil_append] at h2
  have h3 := congrArg List.length h2
  rw [List.length_append, List.length_take] at h3
  exact ⟨by omega, h2.symm⟩
theorem ck_seg {s : List UInt8} {k sm F : Nat} {o : List (List UInt8)} {r : List UInt8} {x : UInt8} (h : ck (s.take k) = (sm, o, r)) (hx : s[k]? = some x) (hF : F + r.length = k) : (s.drop F).take (k + 1 - F) = r ++ [x] := by
  have hk : k < s.length := (List.getElem?_eq_some_iff.1 hx).1
  obtain ⟨h1, h2⟩ := ck_len_eq (by omega) h
  have h3 : (s.take (k + 1)).drop F = r ++ [x] := by
    rw [List.take_add_one, hx, h2, List.append_assoc, List.drop_left' (by omega)]
    rfl
  rw [← h3, List.drop_take]
theorem ck_end {s : List UInt8} {sm F : Nat} {o : List (List UInt8)} {r : List UInt8} (h : ck s = (sm, o, r)) (hF : F + r.length = s.length) : s.drop F = r := by
  have h0 : ck (s.take s.length) = (sm, o, r) := by rw [List.take_length]; exact h
  obtain ⟨h1, h2⟩ := ck_len_eq (Nat.le_refl _) h0
  rw [List.take_length] at h2
  conv => lhs; rw [h2]
  rw [List.drop_left' (by omega)]
theorem sum_seg {s : List UInt8} {k sm : Nat} {o : List (List UInt8)} {r : List UInt8} {x : UInt8} (h : ck (s.take k) = (sm, o, r)) (hx : s[k]? = some x) : sumC 0 ((s.drop (k - 31)).take (k + 1 - (k - 31))) = sumF sm x := by
  have hk : k < s.length := (List.getElem?_eq_some_iff.1 hx).1
  have h1 : sm = sumC 0 (s.take k) := by
    have h5 := ck_sum (0, [], []) (s.take k)
    unfold ck at h
    rw [h] at h5
    simpa only using h5
  have h2 : sumF sm x = sumC 0 (s.take (k + 1)) := by rw [List.take_add_one, hx, sumC_app, ← h1, Option.toList_some, sumC_one]
  rw [h2]
  have h3 : s.take (k + 1) = s.take (k - 31) ++ (s.drop (k - 31)).take (k + 1 - (k - 31)) := by
    rw [← List.take_add]
    congr 1
    omega
  rcases Nat.lt_or_ge 31 k with h4 | h4
  · rw [h3]
    refine (sumC_last ?_).symm
    rw [List.length_take, List.length_drop]
    omega
  · rw [show k - 31 = 0 from by omega, List.drop_zero, Nat.sub_zero]
theorem seg_step {s : List UInt8} {lo j : Nat} {x : UInt8} (hlo : lo ≤ j) (hx : s[j]? = some x) : sumC 0 ((s.drop lo).take (j + 1 - lo)) = sumF (sumC 0 ((s.drop lo).take (j - lo))) x := by
  rw [show j + 1 - lo = (j - lo) + 1 from by omega, List.take_add_one, List.getElem?_drop, show lo + (j - lo) = j from by omega, hx, sumC_app, Option.toList_some, sumC_one]
theorem isCut_lt {n sum : Nat} (h : n < 16) : isCut n sum = false := by unfold isCut; rw [decide_eq_false (by omega)]; rfl
theorem isCut_sum {n sum : Nat} (h : 16 ≤ n) (hs : sum < 134217728) : isCut n sum = true := by unfold isCut; rw [decide_eq_true h, decide_eq_true hs]; rfl
theorem isCut_128 {sum : Nat} : isCut 128 sum = true := by unfold isCut; simp
theorem isCut_no {n sum : Nat} (hs : ¬ sum < 134217728) (h : n ≠ 128) : isCut n sum = false := by unfold isCut; rw [decide_eq_false hs]; simp [h]
theorem cutC_nil {s : List UInt8} {sm : Nat} {o : List (List UInt8)} (h : ck s = (sm, o, [])) : cutC s = o := by unfold cutC; rw [h]; simp [tailP]
theorem cutC_some {s : List UInt8} {sm : Nat} {o : List (List UInt8)} {r : List UInt8} (h : ck s = (sm, o, r)) (hr : r ≠ []) : cutC s = o ++ [r] := by unfold cutC; rw [h]; simp [tailP, hr]
theorem cutC_cnt (s : List UInt8) : 16 * (cutC s).length ≤ s.length + 16 := by
  have := ck_len16 (0, [], []) s
  unfold cutC tailP ck
  rw [List.length_append]
  split <;> simp at * <;> omega
theorem ck_ext {l s r : List UInt8} {sm : Nat} {o : List (List UInt8)} (h : ck l = (sm, o, r)) : ck (l ++ s) = ((ckAll (sm, [], r) s).1, o ++ (ckAll (sm, [], r) s).2.1, (ckAll (sm, [], r) s).2.2) := by
  unfold ck at *
  rw [ck_app, h, ck_out]
theorem ck_rl (l : List UInt8) : (ck l).2.2.length < 128 := ck_rest (0, [], []) (by simp) l
theorem ck_sl (l : List UInt8) : (ck l).1 < 4294967296 := by unfold ck; rw [ck_sum]; exact sumC_lt (by omega) _
theorem cutC_take {l r : List UInt8} {sm : Nat} {o : List (List UInt8)} (h : ck l = (sm, o, r)) : (cutC l).take o.length = o ∧ (cutC l).drop o.length = tailP r := by
  have hc : cutC l = o ++ tailP r := by unfold cutC; rw [h]
  rw [hc, List.take_left, List.drop_left]
  exact ⟨rfl, rfl⟩
theorem cutC_length {l r : List UInt8} {sm : Nat} {o : List (List UInt8)} (h : ck l = (sm, o, r)) : (cutC l).length = o.length + (tailP r).length := by
  have hc : cutC l = o ++ tailP r := by unfold cutC; rw [h]
  rw [hc, List.length_append]
theorem tailP_nil : tailP [] = [] := rfl
theorem tailP_some {r : List UInt8} (h : r ≠ []) : tailP r = [r] := by unfold tailP; rw [if_neg h]
theorem cutC_x_len {l r : List UInt8} {sm : Nat} {o : List (List UInt8)} (h : ck l = (sm, o, r)) : (cutC (l ++ [120])).length = o.length + 1 := by rw [cutC_x, h]
theorem cutC_x_at {l : List UInt8} {sm k : Nat} {o : List (List UInt8)} {p : List UInt8} (h : ck l = (sm, o, [])) (hp : (cutC l)[k]? = some p) : (cutC (l ++ [120]))[k]? = some p := by
  have hc : cutC l = o := cutC_nil h
  rw [cutC_x_nil (by rw [h]), h]
  rw [hc] at hp
  rw [List.getElem?_append_left (List.getElem?_eq_some_iff.1 hp).1]
  exact hp
theorem new_pieces {l s r : List UInt8} {sm : Nat} {o : List (List UInt8)} (h : ck l = (sm, o, r)) : ((cutC (l ++ s)).drop o.length).take ((o ++ (ckAll (sm, [], r) s).2.1).length - o.length) = (ckAll (sm, [], r) s).2.1 := by
  have h2 := ck_ext (s := s) h
  have hc : cutC (l ++ s) = o ++ (ckAll (sm, [], r) s).2.1 ++ tailP (ckAll (sm, [], r) s).2.2 := by unfold cutC; rw [h2]
  rw [hc, List.append_assoc, List.drop_left, List.length_append, Nat.add_sub_cancel_left, List.take_left]
theorem sumF_walk (n : Nat) (hn : n < 4294967296) (x : UInt8) : IntKind.u64.wrap (IntKind.u64.wrap (2 * (n : Int)) + IntKind.u64.wrap (gear x : Nat)) = ((2 * n + gear x : Nat) : Int) := by
  have hg := gear_lt x
  generalize gear x = g at *
  have e1 : IntKind.u64.wrap (2 * (n : Int)) = 2 * (n : Int) := IntWalk.u64_in _ ⟨by omega, by omega⟩
  have e3 : IntKind.u64.wrap (g : Int) = (g : Int) := IntWalk.u64_in _ ⟨by omega, by omega⟩
  have e2 : IntKind.u64.wrap (2 * (n : Int) + g) = 2 * (n : Int) + g := IntWalk.u64_in _ ⟨by omega, by omega⟩
  rw [e1, e3, e2]
  omega
end Go.Larder
end

/- SpecDate -/
section
namespace Go.Larder
set_option linter.unusedVariables false
set_option linter.unusedSimpArgs false

def lp (y : Int) : Bool := y % 400 == 0 || (!(y % 100 == 0) && y % 4 == 0)
def lpI (y : Int) : Int := if lp y then 1 else 0
theorem lpI_bd (y : Int) : 0 ≤ lpI y ∧ lpI y ≤ 1 := by unfold lpI; split <;> omega
theorem lp_eq (y : Int) : (y % 4 == 0 && (!(y % 100 == 0) || y % 400 == 0)) = lp y := by
  unfold lp
  rw [Bool.eq_iff_iff]
  simp
  omega

/-- Days ahead of a year. -/
def yd (y : Int) : Int := 365 * (y - 1970) + (y - 1) / 4 - (y - 1) / 100 + (y - 1) / 400 - 477
theorem yd_succ (y : Int) : yd (y + 1) = yd y + 365 + lpI y := by
  unfold yd lpI lp
  split
  · rename_i h; simp at h; omega
  · rename_i h; simp at h; omega
theorem yd_mono {a b : Int} (h : a ≤ b) : yd a ≤ yd b := by unfold yd; omega
theorem yd_step {a b : Int} (h : a < b) : yd a + 365 + lpI a ≤ yd b := by
  rw [← yd_succ]; exact yd_mono (by omega)

/-- Days of a month, months from 0 on. -/
def md (y : Int) : Nat → Int
  | 0 => 31 | 1 => 28 + lpI y | 2 => 31 | 3 => 30 | 4 => 31 | 5 => 30 | 6 => 31 | 7 => 31 | 8 => 30 | 9 => 31 | 10 => 30 | _ => 31
/-- Days ahead of a month. -/
def cum (y : Int) : Nat → Int
  | 0 => 0 | 1 => 31 | 2 => 59 + lpI y | 3 => 90 + lpI y | 4 => 120 + lpI y | 5 => 151 + lpI y | 6 => 181 + lpI y | 7 => 212 + lpI y | 8 => 243 + lpI y | 9 => 273 + lpI y | 10 => 304 + lpI y | _ => 334 + lpI y
theorem months {P : Nat → Prop} (h0 : P 0) (h1 : P 1) (h2 : P 2) (h3 : P 3) (h4 : P 4) (h5 : P 5) (h6 : P 6) (h7 : P 7) (h8 : P 8) (h9 : P 9) (h10 : P 10) (h11 : P 11) : ∀ m, m < 12 → P m
  | 0, _ => h0 | 1, _ => h1 | 2, _ => h2 | 3, _ => h3 | 4, _ => h4 | 5, _ => h5 | 6, _ => h6 | 7, _ => h7 | 8, _ => h8 | 9, _ => h9 | 10, _ => h10 | 11, _ => h11
  | n + 12, h => by omega
theorem md_bd (y : Int) (m : Nat) : 28 ≤ md y m ∧ md y m ≤ 31 := by
  have := lpI_bd y
  unfold md
  split <;> omega
theorem cum_succ (y : Int) (m : Nat) (h : m < 11) : cum y (m + 1) = cum y m + md y m := by
  revert h; revert m
  intro m h
  have : m = 0 ∨ m = 1 ∨ m = 2 ∨ m = 3 ∨ m = 4 ∨ m = 5 ∨ m = 6 ∨ m = 7 ∨ m = 8 ∨ m = 9 ∨ m = 10 := by omega
  rcases this with rfl | rfl | rfl | rfl | rfl | rfl | rfl | rfl | rfl | rfl | rfl <;> simp only [cum, md] <;> omega
theorem cum_last (y : Int) : cum y 11 + md y 11 = 365 + lpI y := by simp only [cum, md]; omega
theorem cum_le (y : Int) : ∀ a b : Nat, a ≤ b → b < 12 → cum y a ≤ cum y b := by
  intro a b h hb
  have := lpI_bd y
  induction b with
  | zero => obtain rfl : a = 0 := by omega
            exact Int.le_refl _
  | succ b ih =>
    rcases Nat.lt_or_ge b a with h1 | h1
    · obtain rfl : a = b + 1 := by omega
      exact Int.le_refl _
    · have h2 := ih h1 (by omega)
      have h3 := cum_succ y b (by omega)
      have h4 := md_bd y b
      omega
theorem cum_step (y : Int) (a b : Nat) (h : a < b) (hb : b < 12) : cum y a + md y a ≤ cum y b := by
  rw [← cum_succ y a (by omega)]; exact cum_le y _ _ (by omega) hb
theorem cum_top (y : Int) (m : Nat) (h : m < 12) : cum y m + md y m ≤ 365 + lpI y := by
  rcases Nat.lt_or_ge m 11 with h1 | h1
  · have := cum_step y m 11 h1 (by omega)
    have := cum_last y
    have := md_bd y 11
    omega
  · obtain rfl : m = 11 := by omega
    have := cum_last y
    omega
theorem cum_bd (y : Int) (m : Nat) : 0 ≤ cum y m ∧ cum y m ≤ 335 := by
  have := lpI_bd y
  unfold cum
  split <;> omega

/-- Day n is day r (from 0 on) of month m (from 0 on) of year y. -/
structure IsCivil (n y : Int) (m : Nat) (r : Int) : Prop where
  y0 : 1970 ≤ y
  m1 : m < 12
  r0 : 0 ≤ r
  r1 : r < md y m
  eq : n = yd y + cum y m + r

theorem civil_exists : ∀ n : Nat, ∃ y m r, IsCivil n y m r
  | 0 => ⟨1970, 0, 0, by omega, by omega, by omega, by simp [md], by simp [yd, cum]⟩
  | n + 1 => by
    obtain ⟨y, m, r, h⟩ := civil_exists n
    have hd := md_bd y
    rcases Int.lt_or_le (r + 1) (md y m) with h1 | h1
    · exact ⟨y, m, r + 1, h.y0, h.m1, by have := h.r0; omega, h1, by have := h.eq; omega⟩
    · rcases Nat.lt_or_ge m 11 with h2 | h2
      · exact ⟨y, m + 1, 0, h.y0, by omega, by omega, by have := hd (m + 1); omega, by
          have := h.eq
          have := cum_succ y m h2
          have := h.r1
          omega⟩
      · obtain rfl : m = 11 := by have := h.m1; omega
        exact ⟨y + 1, 0, 0, by have := h.y0; omega, by omega, by omega, by simp [md], by
          have := h.eq
          have := h.r1
          have := cum_last y
          rw [yd_succ]
          show _ = _ + 0 + 0
          omega⟩

theorem IsCivil.y1 {n y r : Int} {m : Nat} (h : IsCivil n y m r) (hn : n ≤ 2932896) : y ≤ 9999 := by
  rcases Int.lt_or_le 9999 y with h1 | h1
  · have h2 := yd_mono (show (10000 : Int) ≤ y by omega)
    have h3 : yd 10000 = 2932897 := by decide
    have := h.eq
    have := (cum_bd y m).1
    have := h.r0
    omega
  · exact h1

/-- The first day of a year of 400 that begins with March. -/
def sy (r : Int) : Int := 365 * r + r / 4 - r / 100
def fy (d : Int) : Int := d - d / 1460 + d / 36524 - d / 146096
theorem fy_mono {a b : Int} (h0 : 0 ≤ a) (h : a ≤ b) : fy a ≤ fy b := by unfold fy; omega
/-- The last day of the year r of 400. -/
def ly (r : Int) : Int := if (r + 1) % 4 == 0 && (!((r + 1) % 100 == 0) || r == 399) then 365 else 364
theorem fy_ends : ∀ r : Fin 400, fy (sy (r.val : Int)) / 365 = r.val ∧ fy (sy (r.val : Int) + ly r.val) / 365 = r.val ∧ sy r.val + ly r.val < 146097 := by decide +kernel
theorem fy_year (r d : Int) (h0 : 0 ≤ r) (h1 : r < 400) (hd0 : 0 ≤ d) (hd1 : d ≤ ly r) : fy (sy r + d) / 365 = r ∧ sy r + d < 146097 := by
  obtain ⟨k, rfl⟩ := Int.eq_ofNat_of_zero_le h0
  have h := fy_ends ⟨k, by omega⟩
  simp only at h
  have hs : 0 ≤ sy k := by unfold sy; omega
  have a := fy_mono (a := sy k) (b := sy k + d) hs (by omega)
  have b := fy_mono (a := sy k + d) (b := sy k + ly k) (by omega) (by omega)
  omega

/-- The formulas of date.Civil. -/
def cN (n : Int) : Int := n + 719468
def cE (n : Int) : Int := cN n / 146097
def cD (n : Int) : Int := cN n % 146097
def cY (n : Int) : Int := (cD n - cD n / 1460 + cD n / 36524 - cD n / 146096) / 365
def cR (n : Int) : Int := cD n - (cY n * 365 + cY n / 4 - cY n / 100)
def cM (n : Int) : Int := (5 * cR n + 2) / 153
def cF (n : Int) : Int := cR n - (153 * cM n + 2) / 5 + 1

/-- The parts of the formula, of a day that begins so: e: 400 years, r: year, p: month from March on, d: day. -/
theorem cParts (n e r d : Int) (p : Nat) (hp : p < 12) (he : 0 ≤ e) (h0 : 0 ≤ r) (h1 : r < 400) (hd0 : 0 ≤ d) (hd1 : (153 * (p : Int) + 2) / 5 + d ≤ ly r) (hd2 : (153 * (p : Int) + 2) / 5 + d < (153 * ((p : Int) + 1) + 2) / 5)
    (hn : n + 719468 = e * 146097 + (sy r + ((153 * (p : Int) + 2) / 5 + d))) : cE n = e ∧ cY n = r ∧ cM n = p ∧ cF n = d + 1 ∧ 0 ≤ cD n ∧ cD n < 146097 ∧ 0 ≤ cR n ∧ cR n ≤ 400 := by
  have hy := fy_year r ((153 * (p : Int) + 2) / 5 + d) h0 h1 (by omega) hd1
  have hs : 0 ≤ sy r := by unfold sy; omega
  have e1 : cE n = e := by unfold cE cN; omega
  have e2 : cD n = sy r + ((153 * (p : Int) + 2) / 5 + d) := by unfold cD cN; omega
  have e3 : cY n = r := by unfold cY; rw [e2]; exact hy.1
  have e4 : cR n = (153 * (p : Int) + 2) / 5 + d := by unfold cR; rw [e3, e2]; unfold sy; omega
  have e5 : cM n = p := by unfold cM; rw [e4]; omega
  have hl : ly r ≤ 365 := by unfold ly; split <;> omega
  refine ⟨e1, e3, e5, ?_, by rw [e2]; omega, by rw [e2]; omega, by rw [e4]; omega, by rw [e4]; omega⟩
  unfold cF
  rw [e5, e4]
  omega

set_option maxHeartbeats 2000000 in
theorem IsCivil.formula {n y r : Int} {m : Nat} (h : IsCivil n y m r) :
    cF n = r + 1 ∧ 0 ≤ cD n ∧ cD n < 146097 ∧ 0 ≤ cR n ∧ cR n ≤ 400 ∧ 0 ≤ cY n ∧ cY n < 400 ∧ ((2 ≤ m ∧ cM n = m - 2 ∧ cE n * 400 + cY n = y) ∨ (m < 2 ∧ cM n = m + 10 ∧ cE n * 400 + cY n + 1 = y)) := by
  obtain ⟨y0, m1, r0, r1, heq⟩ := h
  have hl := lpI_bd y
  rcases Nat.lt_or_ge m 2 with h2 | h2
  · -- January and February belong to the year before
    have hc := cParts n ((y - 1) / 400) ((y - 1) % 400) r (m + 10) (by omega) (by omega) (by omega) (by omega) r0
    have hly : ly ((y - 1) % 400) = 364 + lpI y := by
      unfold ly lpI lp
      have h3 : ((y - 1) % 400 + 1) % 4 = y % 4 := by omega
      have h4 : ((y - 1) % 400 + 1) % 100 = y % 100 := by omega
      have h5 : ((y - 1) % 400 == 399) = (y % 400 == 0) := by rw [Bool.eq_iff_iff]; simp; omega
      rw [h3, h4, h5]
      have h6 : (y % 4 == 0 && (!y % 100 == 0 || y % 400 == 0)) = (y % 400 == 0 || !y % 100 == 0 && y % 4 == 0) := lp_eq y
      rw [h6]
      split <;> rfl
    have : m = 0 ∨ m = 1 := by omega
    have hyd : n + 719468 = (y - 1) / 400 * 146097 + (sy ((y - 1) % 400) + (306 + cum y m + r)) := by
      rw [heq]; unfold yd sy; omega
    rcases this with rfl | rfl
    · simp only [md, cum] at r1 hyd
      obtain ⟨q1, q2, q3, q4, q5, q6, q7, q8⟩ := hc (by rw [hly]; omega) (by omega) (by rw [hyd]; omega)
      exact ⟨q4, q5, q6, q7, q8, by omega, by omega, .inr ⟨by omega, by rw [q3]; rfl, by omega⟩⟩
    · simp only [md, cum] at r1 hyd
      obtain ⟨q1, q2, q3, q4, q5, q6, q7, q8⟩ := hc (by rw [hly]; omega) (by omega) (by rw [hyd]; omega)
      exact ⟨q4, q5, q6, q7, q8, by omega, by omega, .inr ⟨by omega, by rw [q3]; rfl, by omega⟩⟩
  · have hc := cParts n (y / 400) (y % 400) r (m - 2) (by omega) (by omega) (by omega) (by omega) r0
    have hly : 364 ≤ ly (y % 400) := by unfold ly; split <;> omega
    have hyd : n + 719468 = y / 400 * 146097 + (sy (y % 400) + (cum y m - lpI y - 59 + r)) := by
      have h8 : yd y + lpI y = 365 * (y - 1970) + y / 4 - y / 100 + y / 400 - 477 := by
        have := yd_succ y; unfold yd at this ⊢; omega
      rw [heq]; unfold sy; omega
    have : m = 2 ∨ m = 3 ∨ m = 4 ∨ m = 5 ∨ m = 6 ∨ m = 7 ∨ m = 8 ∨ m = 9 ∨ m = 10 ∨ m = 11 := by omega
    rcases this with rfl | rfl | rfl | rfl | rfl | rfl | rfl | rfl | rfl | rfl <;>
    · simp only [md, cum] at r1 hyd
      obtain ⟨q1, q2, q3, q4, q5, q6, q7, q8⟩ := hc (by simp; omega) (by simp; omega) (by rw [hyd]; first | (simp; done) | (simp; omega))
      exact ⟨q4, q5, q6, q7, q8, by omega, by omega, .inl ⟨by omega, by rw [q3]; rfl, by omega⟩⟩

/-- The formula of date.Days, of a month from March on (m - 1 from 0 on is k). -/
theorem dFormula (y : Int) (k : Nat) (d : Int) (hk : k < 12) :
    (2 ≤ k → y * 365 + y / 4 - y / 100 + y / 400 + (153 * ((k : Int) - 2) + 2) / 5 + d - 1 - 719468 = yd y + cum y k + d - 1) ∧
    (k < 2 → (y - 1) * 365 + (y - 1) / 4 - (y - 1) / 100 + (y - 1) / 400 + (153 * ((k : Int) + 10) + 2) / 5 + d - 1 - 719468 = yd y + cum y k + d - 1) := by
  have h8 : yd y + lpI y = 365 * (y - 1970) + y / 4 - y / 100 + y / 400 - 477 := by
    have := yd_succ y; unfold yd at this ⊢; omega
  refine ⟨fun h2 => ?_, fun h2 => ?_⟩
  · have : k = 2 ∨ k = 3 ∨ k = 4 ∨ k = 5 ∨ k = 6 ∨ k = 7 ∨ k = 8 ∨ k = 9 ∨ k = 10 ∨ k = 11 := by omega
    rcases this with rfl | rfl | rfl | rfl | rfl | rfl | rfl | rfl | rfl | rfl <;> simp only [cum] <;> omega
  · have : k = 0 ∨ k = 1 := by omega
    rcases this with rfl | rfl <;> simp only [cum] <;> unfold yd <;> omega
theorem yd_bd {y : Int} (h0 : 1970 ≤ y) (h1 : y ≤ 9999) : 0 ≤ yd y ∧ yd y ≤ 2932532 := by
  have a := yd_mono h0
  have b := yd_mono h1
  have : yd 1970 = 0 := by decide
  have : yd 9999 = 2932532 := by decide
  omega
end Go.Larder
end

/- SpecDtp -/
section
namespace Go.Larder
set_option linter.unusedVariables false
set_option linter.unusedSimpArgs false
def weekL : List UInt8 := [84, 104, 117, 70, 114, 105, 83, 97, 116, 83, 117, 110, 77, 111, 110, 84, 117, 101, 87, 101, 100]
def monL : List UInt8 := [74, 97, 110, 70, 101, 98, 77, 97, 114, 65, 112, 114, 77, 97, 121, 74, 117, 110, 74, 117, 108, 65, 117, 103, 83, 101, 112, 79, 99, 116, 78, 111, 118, 68, 101, 99]
def wkD (k : Nat) : List UInt8 := (weekL.drop (3 * k)).take 3
def moD (k : Nat) : List UInt8 := (monL.drop (3 * k)).take 3
def twoL (n : Int) : List UInt8 := if n < 10 then 48 :: Lib.decDigits n.toNat else Lib.decDigits n.toNat
/-- The date of n seconds: day (since 1970) d, month m (from 0), year y, day of the month r (from 0). -/
def dateL (n y : Int) (m : Nat) (r : Int) : List UInt8 :=
  wkD (n / 86400 % 7).toNat ++ [44, 32] ++ twoL (r + 1) ++ [32] ++ moD m ++ [32] ++ Lib.decDigits y.toNat ++ [32] ++ twoL (n % 86400 / 3600) ++ [58] ++ twoL (n % 86400 / 60 % 60) ++ [58] ++ twoL (n % 86400 % 60) ++ [32, 71, 77, 84]
theorem dec_two (n : Int) (h0 : 0 ≤ n) (h1 : n < 100) : (twoL n).length = 2 := by
  unfold twoL
  split
  · rw [Lib.decDigits_one (by omega)]; rfl
  · rw [Lib.decDigits_two (by omega) (by omega)]; rfl
theorem dec_four (n : Int) (h0 : 1000 ≤ n) (h1 : n ≤ 9999) : (Lib.decDigits n.toNat).length = 4 := by
  have e : Lib.decDigits n.toNat = Lib.decDigits (n.toNat / 100) ++ [UInt8.ofNat (48 + n.toNat / 10 % 10)] ++ [UInt8.ofNat (48 + n.toNat % 10)] := by
    conv => lhs; rw [Lib.decDigits, dif_neg (by omega), Lib.decDigits, dif_neg (by omega)]
    rw [Nat.div_div_eq_div_mul]
  rw [e, Lib.decDigits_two (by omega) (by omega)]
  rfl
theorem dec_lt (n : Int) (h0 : 0 ≤ n) (h1 : n < 10) : (Lib.decDigits n.toNat).length = 1 := by rw [Lib.decDigits_one (by omega)]; rfl
theorem dec_ge (n : Int) (h0 : 10 ≤ n) (h1 : n < 100) : (Lib.decDigits n.toNat).length = 2 := by rw [Lib.decDigits_two (by omega) (by omega)]; rfl
theorem wk_len (k : Nat) (h : k < 7) : (wkD k).length = 3 := by
  simp [wkD, weekL]; omega
theorem mo_len (k : Nat) (h : k < 12) : (moD k).length = 3 := by
  simp [moD, monL]; omega
end Go.Larder
end
