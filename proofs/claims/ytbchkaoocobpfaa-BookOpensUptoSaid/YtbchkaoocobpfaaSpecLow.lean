/- Lower case: of bytes, of texts; a row of bytes that '[]byte(s)' laid. No program in sight. -/
import Derived.Test.YtbchkaoocobpfaaBase
import Derived.Laws.IdiomStrings
import Derived.Laws.World
namespace Go.Larder
open Go.RowKit
set_option linter.unusedVariables false
set_option linter.unusedSimpArgs false

def lowB (b : UInt8) : UInt8 := if 65 ≤ b.toNat ∧ b.toNat ≤ 90 then b + 32 else b
def lowL (l : List UInt8) : List UInt8 := l.map lowB
theorem lowL_len (l : List UInt8) : (lowL l).length = l.length := List.length_map _
theorem lowB_in {b : UInt8} (h1 : 65 ≤ b.toNat) (h2 : b.toNat ≤ 90) : (lowB b).toNat = b.toNat + 32 := by
  unfold lowB
  rw [if_pos ⟨h1, h2⟩, UInt8.toNat_add]
  simp; omega
theorem lowB_out {b : UInt8} (h : ¬ (65 ≤ b.toNat ∧ b.toNat ≤ 90)) : lowB b = b := if_neg h

theorem set_same {α : Type} {l : List α} {j : Nat} {x : α} (h : l[j]? = some x) : l.set j x = l := by
  obtain ⟨h1, h2⟩ := List.getElem?_eq_some_iff.1 h
  subst h2
  exact List.set_getElem_self h1

/-- A row of bytes in new memory that may be read and written. -/
def RowB (w : World) (g : Nat) (l : List UInt8) : Prop := g < w.heap.size ∧ ∀ j b, l[j]? = some b → w.cell? ⟨g, j, none⟩ = some (.int .u8 b.toNat) ∧ w.frozen? ⟨g, j, none⟩ = false

theorem RowB.new (w : World) (l : List UInt8) (c : Nat) (e : TypeId) :
    RowB (w.drew.alloc (.cells (bytesRow ⟨l.toArray⟩ c) e ((bytesRow ⟨l.toArray⟩ c).size, (bytesRow ⟨l.toArray⟩ c).size + 1))) w.heap.size l := by
  have hh : (w.drew.alloc (.cells (bytesRow ⟨l.toArray⟩ c) e ((bytesRow ⟨l.toArray⟩ c).size, (bytesRow ⟨l.toArray⟩ c).size + 1))).heap[w.heap.size]? = some (.cells (bytesRow ⟨l.toArray⟩ c) e ((bytesRow ⟨l.toArray⟩ c).size, (bytesRow ⟨l.toArray⟩ c).size + 1)) := by
    show (w.heap.push _)[w.heap.size]? = _
    simp
  refine ⟨by show w.heap.size < (w.heap.push _).size; simp, fun j b hb => ?_⟩
  have hj : j < l.length := (List.getElem?_eq_some_iff.1 hb).1
  have hlen : l.length ≤ (bytesRow ⟨l.toArray⟩ c).size := by unfold bytesRow; simp
  constructor
  · unfold World.cell?
    rw [hh]
    have : (bytesRow ⟨l.toArray⟩ c)[j]? = some (.int .u8 b.toNat) := by
      unfold bytesRow
      rw [Array.getElem?_append_left (by simpa using hj)]
      simp [hb]
    simpa using this
  · unfold World.frozen?
    rw [hh]
    simp; omega

theorem RowB.read {w : World} {g : Nat} {l : List UInt8} (h : RowB w g l) : ReadL encB w (g + 1) (some ⟨g, 0, none⟩) l := fun _ =>
  ⟨g, 0, rfl, by omega, fun k a ha j u hu => by
    cases j with
    | zero =>
      have hu' : Value.int .u8 a.toNat = u := by simpa [encB] using hu
      rw [← hu']
      simpa [encB] using (h.2 k a ha).1
    | succ j => simp [encB] at hu⟩

theorem RowB.set {w : World} {g : Nat} {l : List UInt8} (h : RowB w g l) (j : Nat) (x : UInt8) : RowB (w.setCell ⟨g, j, none⟩ (.int .u8 x.toNat)) g (l.set j x) := by
  refine ⟨by simpa using h.1, fun k b hb => ?_⟩
  rw [World.frozen?_setCell]
  rw [List.getElem?_set] at hb
  split at hb
  · rename_i hjk
    subst hjk
    split at hb
    · rename_i hlt
      injection hb with hb
      subst hb
      have h0 := h.2 j _ (List.getElem?_eq_getElem hlt)
      exact ⟨World.cell?_setCell_same _ _ _ h0.1, h0.2⟩
    · cases hb
  · rename_i hjk
    have h0 := h.2 k b hb
    exact ⟨by rw [World.cell?_setCell_other _ _ _ _ (by simp only [ne_eq, Addr.mk.injEq, and_true, true_and]; exact hjk)]; exact h0.1, h0.2⟩
end Go.Larder
