/- strconv.Atoi by the library's contract: a number and no error, or some number and an error. -/
import Derived.Test.YtgjikbhehijnaaaDoorWItoa
import Derived.Lib.AtoiTie
import Derived.Lib.AtoiErrMem
import Derived.Shelf.Strconv.AtoiAll
namespace Go.Proofs.YtgjikbhehijnaaaDoor
open Go.RowKit Go.Larder
set_option linter.unusedVariables false
set_option linter.unusedSimpArgs false

/-- The two error variables of strconv hold errors. -/
def EV (w : World) : Prop := (∃ tp p, w.cell? ⟨3, 0, none⟩ = some (.iface tp p)) ∧ ∃ tp p, w.cell? ⟨4, 0, none⟩ = some (.iface tp p)
theorem EV.keep {w w' : World} (h : EV w) (hb : Below w.heap.size w w') : EV w' := by
  have hlt : ∀ (g : Nat) (v : Value), w.cell? ⟨g, 0, none⟩ = some v → g < w.heap.size := fun g v hm => by
    rcases Nat.lt_or_ge g w.heap.size with h | h
    · exact h
    · simp [World.cell?, Array.getElem?_eq_none h] at hm
  obtain ⟨⟨a, b, h1⟩, c, d, h2⟩ := h
  exact ⟨⟨a, b, (hb.cell (p := ⟨_, 0, none⟩) (hlt _ _ h1)).trans h1⟩, c, d, (hb.cell (p := ⟨_, 0, none⟩) (hlt _ _ h2)).trans h2⟩
theorem EV.drew {w : World} (h : EV w) : EV w.drew := h
theorem es_star : "*" ++ "errors.errorString" = "*errors.errorString" := by decide
theorem es_row (u : TypeId) (h : (Tryd.prog).typeName? 3 u = some "*errors.errorString") : u = 200 :=
  typeName_ptr_named (nm := "errors.errorString") (by rw [es_star]; kernel_rfl) (by kernel_rfl) (by decide) u (by rw [es_star]; exact h)
theorem laid_at {l : List (String × DataW Unit)} {w : World} {n : String} {text : List UInt8} (hp : (l.all fun x => x.2.handleName?.isNone) = true) (h : laidMetH Tryd.prog l w) (k : Nat) (hn : l[k]? = some (n, .iface "*errors.errorString" (.ptr (.agg [.lit (.string text)])))) {g : Nat} (hg : (Tryd.prog).globalNamed n = some g) (ht : ((Tryd.prog).globals[g]?).map (·.type) = some 130) :
    ∃ tp p, w.cell? ⟨g, 0, none⟩ = some (.iface tp p) := by
  rw [MakeChecks.laidMetH_plain _ _ _ hp] at h
  clear hp
  induction l generalizing k with
  | nil => cases hn
  | cons x l ih =>
    cases k with
    | zero =>
      have hx : x = (n, .iface "*errors.errorString" (.ptr (.agg [.lit (.string text)]))) := by simpa using hn
      subst hx
      obtain ⟨a, s, hv, _⟩ := laid_sentinel h hg ht Tryd.underlying130 es_row Tryd.underlying200 Tryd.underlying202 rfl rfl Tryd.underlying9 (by kernel_rfl) (by kernel_rfl)
      have h0 := World.var?_cell hg hv 0
      exact ⟨_, _, by simpa using h0⟩
    | succ k => exact ih h.tail k (by simpa using hn)
/-- What Atoi answers. -/
def AtoiOut (w : World) (s : List UInt8) (e : Ending) (w' : World) : Prop :=
  ((∃ v : Int, Lib.atoiAll s = .ok v ∧ e = .returned (.tuple #[.int .i64 v, .nilIface])) ∨ (∃ (v : Int) (t : TypeId) (p : Value), (-9223372036854775808 ≤ v ∧ v ≤ 9223372036854775807) ∧ (∀ u, Lib.atoiAll s ≠ .ok u) ∧ e = .returned (.tuple #[.int .i64 v, .iface t p]))) ∧ Below w.heap.size w w'
theorem w_Atoi (s : List UInt8) (hl : s.length ≤ 140737488355328) (w : World) (hE : EV w) :
    Calls Tryd.prog 95 #[S s] w (AtoiOut w s) := by
  have hd : (⟨s.toArray⟩ : ByteArray).data.toList = s := by simp
  have hz : (⟨s.toArray⟩ : ByteArray).size = s.length := ba_size s
  obtain ⟨⟨t1, p1, h1⟩, t2, p2, h2⟩ := hE
  cases h : Lib.atoiAll s
  · refine (Any.strconv_Atoi_ok Tryd.laysC172 ⟨s.toArray⟩ (by rw [hz]; omega) _ (by rw [hd]; exact h) w).mono ?_
    rintro e w' ⟨he, hw⟩
    refine ⟨.inl ⟨_, h, he⟩, ?_⟩
    rcases hw with rfl | ⟨t, rfl⟩
    · exact Below.refl _ _
    · exact Lib.bytesWorld_below _ _ _
  · refine (Any.strconv_Atoi_syntax Tryd.laysC172 ⟨s.toArray⟩ (by rw [hz]; omega) (by rw [hd]; exact h) _ w h1 (.inr ⟨_, _, rfl⟩)).mono ?_
    rintro e w' ⟨N, he, _, _, hb⟩
    exact ⟨.inr ⟨0, _, _, by omega, (fun u hu => by rw [h] at hu; cases hu), he⟩, hb⟩
  · refine (Any.strconv_Atoi_range Tryd.laysC172 ⟨s.toArray⟩ (by rw [hz]; omega) (by rw [hd]; exact h) _ w h2 (.inr ⟨_, _, rfl⟩)).mono ?_
    rintro e w' ⟨N, he, _, _, hb⟩
    exact ⟨.inr ⟨_, _, _, Lib.atoiSat_bounds _, (fun u hu => by rw [h] at hu; cases hu), he⟩, hb⟩
end Go.Proofs.YtgjikbhehijnaaaDoor
