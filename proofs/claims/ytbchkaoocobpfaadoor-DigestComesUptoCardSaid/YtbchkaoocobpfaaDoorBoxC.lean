/- Copies into a block known whole. No program in sight. -/
import Derived.Test.YtbchkaoocobpfaaDoorChg
import Derived.Laws.CopyOwn
namespace Go.Larder
open Go.RowKit
set_option linter.unusedVariables false
set_option linter.unusedSimpArgs false
theorem setRow_same (w : World) (g : Nat) (cs : Array Value) : SameBut (fun j => j = g) w (w.setRow g cs) := ⟨rfl, rfl, rfl, by simp, fun k _ hn => setRow_other w g k cs hn⟩
theorem wpList_copy_box {P : Program} {w : World} {ops : Array Oper} {rest : List Oper} {o : Oper} {a : Act} {Q : Exit → Act → World → Prop} (hgd : o.guard = none) (d s : Operand) (dT sT : TypeId)
    (ho : o.op = .call { callee := .builtin .copy, args := #[d, s], argTypes := #[dT, sT] }) (elem : TypeId) (hu : P.underlying dT = some (.slice elem)) (hsz : (P.info? elem).map (·.size) = some 1)
    {g off dLen dCap m sCap : Nat} {t : TypeId} {ad : Addr} {cs : List Value} (cs2 : List Value) (hd : a.eval d = .slice (some ⟨g, off, none⟩) dLen dCap) (hs : a.eval s = .slice (some ad) m sCap) (hb : BoxAt w g t cs)
    (hm : cs2.length = m) (hle : m ≤ dLen) (hsrc : ∀ j v, cs2[j]? = some v → w.cell? (ad.add j) = some v) (hfit : off + m ≤ cs.length) (h1 : ∀ v ∈ cs2, v.oneCell' = true) (N : Int) (hN : (m : Int) = N)
    (h : ∀ w', BoxAt w' g t (cs.take off ++ (cs2 ++ cs.drop (off + m))) → SameBut (fun j => j = g) w w' → wpList P ops Q rest (a.put o.dst (.int .i64 N)) w') : wpList P ops Q (o :: rest) a w := by
  subst hm hN
  refine wpList_copy_own hgd d s dT sT ho elem hu hsz g off dLen dCap ad cs2.length sCap hd hs cs.toArray t hb cs2 (Nat.min_eq_left hle).symm hsrc (by simpa using hfit) h1 ?_
  refine h _ ?_ (setRow_same w g _)
  have := setRow_heap w g _ (cs.toArray.toList.take off ++ (cs2 ++ cs.toArray.toList.drop (off + cs2.length))).toArray t _ hb
  exact this
theorem BoxAt.srcs {w : World} {g : Nat} {t : TypeId} {cs : List Value} (h : BoxAt w g t cs) : ∀ j v, cs[j]? = some v → w.cell? ((⟨g, 0, none⟩ : Addr).add j) = some v := fun j v hv => by
  have hadd : (⟨g, 0, none⟩ : Addr).add j = ⟨g, j, none⟩ := by unfold Addr.add; split <;> simp_all
  rw [hadd]
  exact h.cell hv
end Go.Larder
