/- Walk: the reference's books: a book found again. -/
import Derived.Test.YtbchkaoocobpfaaWBr3
import Derived.Test.YtbchkaoocobpfaaWBr4
import Derived.Test.YtbchkaoocobpfaaWRecR
namespace Go.Proofs.Ytbchkaoocobpfaa
open Go.RowKit Go.Larder
set_option linter.unusedVariables false
set_option linter.unusedSimpArgs false
variable {w w' : World} {c cap : Nat} {A : Option Addr} {L : List Ent} {m : Kv}
def ROpenP (w : World) (L : List Ent) (e : Ending) (w' : World) : Prop :=
  ∃ c A cap, e = .returned (.tuple #[.pointer (some ⟨c, 0, none⟩), .int .i64 ((imgGo 0 L).length : Int)]) ∧ RefB w' c A cap L ∧ (∀ j, FR c A j → w.heap.size ≤ j) ∧ Below w.heap.size w w'
theorem run_indexR {P : Program} (t : TypeId) (ht : P.underlying t = some .string) (b : List UInt8) (i : Int) (j : Nat) (hi : i = (j : Int)) (c : UInt8) (hj : b[j]? = some c) (w : World) : (Instr.index t (.string ⟨b.toArray⟩) (.int .i64 i)).run P w = .ok (.int .u8 (c.toNat : Int)) w := by
  subst hi
  have hl : j < b.length := (List.getElem?_eq_some_iff.1 hj).1
  rw [run_index_string w t _ _ _ ht, dif_pos (by rw [ba_size]; omega)]
  simp only [ba_get, Int.toNat_natCast]
  rw [(List.getElem?_eq_some_iff.1 hj).2]
theorem u8_eqR {c : UInt8} {n : Nat} (hn : n < 256) : ((c.toNat : Int) == (n : Int)) = decide (c = UInt8.ofNat n) := by
  rw [u8_beq c n hn, Bool.eq_iff_iff]
  simp
/-- what a record is, by its parts -/
inductive RecCase (r : List UInt8) : Prop where
  | short (h : r.length < 2) (hr : recOf r = none)
  | cut (x1 : UInt8) (h1 : r[1]? = some x1) (h2 : 2 ≤ r.length) (h3 : r.length < 2 + x1.toNat) (hr : recOf r = none)
  | set (x1 x0 : UInt8) (k x : List UInt8) (h0 : r[0]? = some x0) (h1 : r[1]? = some x1) (h2 : 2 ≤ r.length) (h3 : 2 + x1.toNat ≤ r.length) (hk : (r.drop 2).take x1.toNat = k) (hx : r.drop (2 + x1.toNat) = x) (e0 : x0 = 1) (hr : recOf r = some (true, k, x))
  | del (x1 x0 : UInt8) (k : List UInt8) (h0 : r[0]? = some x0) (h1 : r[1]? = some x1) (h2 : 2 ≤ r.length) (h3 : 2 + x1.toNat ≤ r.length) (hk : (r.drop 2).take x1.toNat = k) (hx : r.drop (2 + x1.toNat) = []) (e0 : x0 = 2) (hr : recOf r = some (false, k, []))
  | full (x1 x0 : UInt8) (k x : List UInt8) (h0 : r[0]? = some x0) (h1 : r[1]? = some x1) (h2 : 2 ≤ r.length) (h3 : 2 + x1.toNat ≤ r.length) (hk : (r.drop 2).take x1.toNat = k) (hx : r.drop (2 + x1.toNat) = x) (e0 : x0 = 2) (ex : x ≠ []) (hr : recOf r = none)
  | other (x1 x0 : UInt8) (k x : List UInt8) (h0 : r[0]? = some x0) (h1 : r[1]? = some x1) (h2 : 2 ≤ r.length) (h3 : 2 + x1.toNat ≤ r.length) (hk : (r.drop 2).take x1.toNat = k) (hx : r.drop (2 + x1.toNat) = x) (e0 : x0 ≠ 1) (e1 : x0 ≠ 2) (hr : recOf r = none)
theorem recCase (r : List UInt8) : RecCase r := by
  by_cases h2 : 2 ≤ r.length
  · obtain ⟨x0, hx0⟩ : ∃ x0, r[0]? = some x0 := ⟨_, List.getElem?_eq_getElem (by omega)⟩
    obtain ⟨x1, hx1⟩ : ∃ x1, r[1]? = some x1 := ⟨_, List.getElem?_eq_getElem (by omega)⟩
    have hg0 : r.getD 0 0 = x0 := by rw [List.getD_eq_getElem?_getD, hx0]; rfl
    have hg1 : r.getD 1 0 = x1 := by rw [List.getD_eq_getElem?_getD, hx1]; rfl
    by_cases h3 : 2 + x1.toNat ≤ r.length
    · by_cases e0 : x0 = 1
      · exact .set x1 x0 _ _ hx0 hx1 h2 h3 rfl rfl e0 (by unfold recOf; rw [hg0, hg1, if_pos ⟨h2, h3⟩, if_pos e0])
      · by_cases e1 : x0 = 2
        · by_cases ex : r.drop (2 + x1.toNat) = []
          · exact .del x1 x0 _ hx0 hx1 h2 h3 rfl ex e1 (by unfold recOf; rw [hg0, hg1, if_pos ⟨h2, h3⟩, if_neg e0, if_pos ⟨e1, ex⟩])
          · exact .full x1 x0 _ _ hx0 hx1 h2 h3 rfl rfl e1 ex (by unfold recOf; rw [hg0, hg1, if_pos ⟨h2, h3⟩, if_neg e0, if_neg (fun h => ex h.2)])
        · exact .other x1 x0 _ _ hx0 hx1 h2 h3 rfl rfl e0 e1 (by unfold recOf; rw [hg0, hg1, if_pos ⟨h2, h3⟩, if_neg e0, if_neg (fun h => e1 h.1)])
    · exact .cut x1 hx1 h2 (by omega) (by unfold recOf; rw [hg1, if_neg (fun h => h3 h.2)])
  · exact .short (by omega) (by unfold recOf; rw [if_neg (fun h => h2 h.1)])
end Go.Proofs.Ytbchkaoocobpfaa
