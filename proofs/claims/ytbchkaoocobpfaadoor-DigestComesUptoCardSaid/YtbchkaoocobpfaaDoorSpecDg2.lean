/- Digests: lists that grow. No program in sight. -/
import Derived.Test.YtbchkaoocobpfaaDoorSpecDig
namespace Go.Larder
set_option linter.unusedSimpArgs false
set_option linter.unusedVariables false
theorem set_mid {l : List Nat} {i p q : Nat} {r : List Nat} (h : l.length = i) : (l ++ p :: r).set i q = l ++ q :: r := by subst h; simp
theorem words_len (b : List UInt8) : (words b).length = 16 := by simp [words]
theorem words_at (b : List UInt8) {i : Nat} (h : i < 16) : (words b)[i]? = some (wd b i) := by
  unfold words
  rw [List.getElem?_map, List.getElem?_range h]
  rfl
theorem words_step (b : List UInt8) {i : Nat} (h : i < 16) : (words b).take i ++ Go.Larder.part b i 4 :: List.replicate (15 - i) 0 = (words b).take (i + 1) ++ List.replicate (16 - (i + 1)) 0 := by
  rw [part_4, List.take_add_one, words_at b h, show 16 - (i + 1) = 15 - i from by omega]
  simp
theorem words_all (b : List UInt8) : (words b).take 16 ++ List.replicate (16 - 16) 0 = words b := by
  rw [List.take_of_length_le (by rw [words_len]; exact Nat.le_refl _)]
  simp
theorem words_ok (b : List UInt8) : OkV 16 (words b) := ⟨words_len b, fun x hx => by
  unfold words at hx
  obtain ⟨k, _, rfl⟩ := List.mem_map.1 hx
  exact wd_lt b k⟩
end Go.Larder
