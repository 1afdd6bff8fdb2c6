/- Walks: requests' lines: the program's, the reference's. -/
import Derived.Test.YtcoghpokkhjhgaaDoorWLine
namespace Go.Proofs.YtcoghpokkhjhgaaDoor
open Go.RowKit Go.Larder
set_option linter.unusedVariables false
set_option linter.unusedSimpArgs false

set_option maxHeartbeats 1000000 in
theorem w_within (l : List UInt8) (hl : l.length ≤ 140737488351232) (lo hi : UInt8) (w : World) :
    Calls Tryd.prog 70 #[S l, .int .u8 lo.toNat, .int .u8 hi.toNat] w fun e w' => e = .returned (.bool (l.all fun c => decide ((lo.toNat : Int) ≤ c.toNat) && decide ((c.toNat : Int) ≤ hi.toNat))) ∧ w = w' := by
  generalize hp : (fun c : UInt8 => decide ((lo.toNat : Int) ≤ c.toNat) && decide ((c.toNat : Int) ≤ hi.toNat)) = p
  have Hp := Lib.hid hp
  clear hp
  go_enter Tryd.func70, Tryd.ntmps70
  go_wp2_with fail
  go_loop [10] (fun i' => ∃ k : Nat, i' = .int .i64 k ∧ k ≤ l.length ∧ Hid ((l.drop k).all p = l.all p)) (fun i' => l.length - (intOf i').toNat)
  case atStart => exact ⟨0, rfl, by omega, Lib.hid rfl⟩
  case round =>
    obtain ⟨k, rfl, hk, Hd⟩ := hrel
    by_cases hlt : k < l.length
    · obtain ⟨x, hx, hs⟩ := drop_step hlt
      have hg : ∀ h, l[k]'h = x := fun h => by rw [List.getElem?_eq_getElem h] at hx; exact Option.some.inj hx
      have Hs := Lib.hid hs; clear hs hx
      by_cases h1 : (x.toNat : Int) < lo.toNat
      · have Hx := Lib.hid (show p x = false from by rw [← Hp.out]; simp; omega)
        go_wp2_with fail
        go_ret
        exact ⟨ret_bool (by rw [← Hd.out, Hs.out, List.all_cons, Hx.out]; rfl), rfl⟩
      · by_cases h2 : (hi.toNat : Int) < x.toNat
        · have Hx := Lib.hid (show p x = false from by rw [← Hp.out]; simp; omega)
          go_wp2_with fail
          go_ret
          exact ⟨ret_bool (by rw [← Hd.out, Hs.out, List.all_cons, Hx.out]; rfl), rfl⟩
        · have Hx := Lib.hid (show p x = true from by rw [← Hp.out]; simp; omega)
          go_wp2_with fail
          go_round
          case rel => exact ⟨k + 1, by go_num, by omega, Lib.hid (by rw [← Hd.out, Hs.out, List.all_cons, Hx.out]; rfl)⟩
          case measure => simp [intOf]; omega
    · go_wp2_with fail
      go_ret
      exact ⟨ret_bool (by rw [← Hd.out, drop_end hlt]; rfl), rfl⟩

def tgtOK (t : List UInt8) : Bool := !t.isEmpty && decide (t.length ≤ 200) && t.all isTg
theorem reqOK_two (m t : List UInt8) : reqOK m t = ((isTok m && decide (m.length ≤ 30)) && tgtOK t) := by
  unfold reqOK tgtOK
  cases isTok m <;> cases decide (m.length ≤ 30) <;> cases t.isEmpty <;> simp
theorem reqE_bad {m t : List UInt8} (h : reqOK m t = false) : reqE m t = .error 3 := by unfold reqE; rw [h]; rfl
theorem reqE_ok {m t : List UInt8} (h : reqOK m t = true) : reqE m t = .ok (reqL m t) := by unfold reqE; rw [h]; rfl

/-- Two texts, a number, an error. -/
def flatQ : Except Int (List UInt8 × List UInt8 × Nat) → List UInt8 × List UInt8 × Int × Int
  | .error n => ([], [], 0, n)
  | .ok (a, b, k) => (a, b, k, 0)
def ReqPost (w : World) (r : Except Int (List UInt8 × List UInt8 × Nat)) (e : Ending) (w' : World) : Prop :=
  (∃ a b k n, e = .returned (.tuple #[S a, S b, .int .i64 k, .int .i64 n]) ∧ (a, b, k, n) = flatQ r) ∧ Below w.heap.size w w'
theorem reqPost_err {w w' : World} {n : Int} (hb : Below w.heap.size w w') : ReqPost w (.error n) (.returned (.tuple #[S [], S [], .int .i64 0, .int .i64 n])) w' := ⟨⟨_, _, _, _, rfl, rfl⟩, hb⟩
theorem reqPost_ok {w w' : World} {a b : List UInt8} {k : Nat} {k' : Int} (hk : k' = k) (hb : Below w.heap.size w w') : ReqPost w (.ok (a, b, k)) (.returned (.tuple #[S a, S b, .int .i64 k', .int .i64 0])) w' := ⟨⟨_, _, _, _, rfl, by rw [hk]; rfl⟩, hb⟩

end Go.Proofs.YtcoghpokkhjhgaaDoor
