/- Walks: the directives of fields; for which codes an age may be guessed. -/
import Derived.Test.YtmhhjmncbclihaaWAge
import Derived.Test.YtmhhjmncbclihaaWCtlP
import Derived.Test.YtmhhjmncbclihaaWCtlR
namespace Go.Larder
open Go.RowKit
set_option linter.unusedVariables false
def smN : List UInt8 := [115, 45, 109, 97, 120, 97, 103, 101]
def maN : List UInt8 := [109, 97, 120, 45, 97, 103, 101]
def expN : List UInt8 := [69, 120, 112, 105, 114, 101, 115]
def lmN : List UInt8 := [76, 97, 115, 116, 45, 77, 111, 100, 105, 102, 105, 101, 100]
def ccN : List UInt8 := [67, 97, 99, 104, 101, 45, 67, 111, 110, 116, 114, 111, 108]
def mrN : List UInt8 := [109, 117, 115, 116, 45, 114, 101, 118, 97, 108, 105, 100, 97, 116, 101]
def prN : List UInt8 := [112, 114, 111, 120, 121, 45, 114, 101, 118, 97, 108, 105, 100, 97, 116, 101]
def ncN : List UInt8 := [110, 111, 45, 99, 97, 99, 104, 101]
def mfN : List UInt8 := [109, 105, 110, 45, 102, 114, 101, 115, 104]
def msN : List UInt8 := [109, 97, 120, 45, 115, 116, 97, 108, 101]
def oicN : List UInt8 := [111, 110, 108, 121, 45, 105, 102, 45, 99, 97, 99, 104, 101, 100]
def dirsE (l : List Fld) : List Dir := match ctlE (Lib.join (valsL (lowL ccN) l) sepL) with
  | .ok ds => ds
  | .error _ => []
theorem dirR_arg (t : List UInt8) : (dirR t).1.2.2.length ≤ t.length := by
  unfold dirR
  split
  · unfold dirAt
    split
    · show (t.drop _).length ≤ _; rw [List.length_drop]; omega
    · split
      · have := unqAll_len (t.drop ((Lib.indexByte t 61).toNat + 1))
        show (unqAll _).1.length ≤ _
        rw [List.length_drop] at this; omega
      · show (t.drop _).length ≤ _; rw [List.length_drop]; omega
  · simp
theorem dirsGo_arg {m : Nat} : ∀ (l : List (List UInt8)) (acc ds : List Dir'), (∀ t ∈ l, t.length ≤ m) → (∀ d ∈ acc, d.2.2.length ≤ m) → dirsGo l acc = some ds → ∀ d ∈ ds, d.2.2.length ≤ m
  | [], acc, ds, _, ha, h => by injection h with h; subst h; exact ha
  | t :: l, acc, ds, hl, ha, h => by
    unfold dirsGo at h
    split at h
    · refine dirsGo_arg l _ ds (fun x hx => hl x (by simp [hx])) (fun d hd => ?_) h
      rcases List.mem_append.1 hd with hd | hd
      · exact ha d hd
      · rw [List.mem_singleton] at hd; subst hd
        exact Nat.le_trans (dirR_arg t) (hl t (by simp))
    · cases h
theorem ctlE_bd {s : List UInt8} {ds : List Dir'} (h : ctlE s = .ok ds) : ds.length ≤ 20 ∧ ∀ d ∈ ds, d.2.2.length ≤ 1000 := by
  unfold ctlE at h
  cases hs : splitE s with
  | error n => rw [hs] at h; cases h
  | ok l =>
    rw [hs] at h
    simp only at h
    cases hd : dirsGo l [] with
    | none => rw [hd] at h; cases h
    | some d =>
      rw [hd] at h
      injection h with h
      subst h
      have h1 := dirsGo_len l [] d hd
      have h2 := splitE_ok hs
      exact ⟨by simp at h1; omega, dirsGo_arg l [] d (splitE_text hs) (by simp) hd⟩
theorem dirsE_bd (l : List Fld) : (dirsE l).length ≤ 20 ∧ ∀ d ∈ dirsE l, d.2.2.length ≤ 1000 := by
  unfold dirsE
  cases h : ctlE (Lib.join (valsL (lowL ccN) l) sepL) with
  | error n => simp
  | ok ds => exact ctlE_bd h
def codesL : List Int := [200, 203, 204, 300, 301, 308, 404, 405, 410, 414, 501]
def codeB (c : Int) : Bool := codesL.any fun y => c == y
end Go.Larder
namespace Go.Proofs.Ytmhhjmncbclihaa
open Go.RowKit Go.Larder
set_option linter.unusedVariables false
set_option linter.unusedSimpArgs false
theorem w_HasI (x : Int) (l : List Int) (hl : l.length ≤ 140737488351232) (A : Option Addr) (c B : Nat) (w : World) (hr : ReadL Go.Larder.encI w B A l) :
    Calls Try.prog 117 #[.slice A l.length c, .int .i64 x] w (fun e w' => e = .returned (.bool (l.any fun y => x == y)) ∧ w = w') := by
  go_enter Try.func117, Try.ntmps117
  go_wp2_with fail
  go_loop [9] (fun i' => ∃ k : Nat, i' = .int .i64 k ∧ k ≤ l.length ∧ ((l.drop k).any fun y => x == y) = (l.any fun y => x == y)) (fun i' => l.length - (intOf i').toNat)
  case atStart => exact ⟨0, rfl, by omega, rfl⟩
  case round =>
    obtain ⟨k, rfl, hk, heq⟩ := hrel
    by_cases hlt : k < l.length
    · obtain ⟨y, hy, hs⟩ := drop_step hlt
      obtain ⟨g, off, rfl, hgb, hc0⟩ := hr.at_I hy
      rw [hs, List.any_cons] at heq
      clear hs hy
      cases hw : (x == y)
      · rw [hw] at heq
        have Heq := Lib.hid heq; clear heq
        go_wp2_with fail
        go_round
        case rel => exact ⟨k + 1, by go_num, by omega, by rw [← Heq.out]; simp⟩
        case measure => simp [intOf]; omega
      · rw [hw] at heq
        have Heq := Lib.hid heq; clear heq
        go_wp2_with fail
        go_ret
        exact ⟨by rw [← Heq.out]; rfl, rfl⟩
    · rw [drop_end hlt] at heq
      have Heq := Lib.hid heq; clear heq
      go_wp2_with fail
      go_ret
      exact ⟨by rw [← Heq.out]; rfl, rfl⟩


theorem dirs_post {l : List Fld} {w w' : World} {e : Ending} (h : SlPost encD 166 w (ctlE (Lib.join (valsL (lowL ccN) l) sepL)) e w') : ∃ A c n, e = .returned (.tuple #[.slice A (dirsE l).length c, .int .i64 n]) ∧ ReadL encD w' w'.heap.size A (dirsE l) ∧ Below w.heap.size w w' := by
  unfold dirsE
  cases hc : ctlE (Lib.join (valsL (lowL ccN) l) sepL) with
  | error n =>
    obtain ⟨rfl, hb⟩ := h.err hc
    exact ⟨none, 0, n, rfl, ReadL.nil, hb⟩
  | ok ds =>
    obtain ⟨A, c, rfl, ho, hb⟩ := h.ok_ hc
    exact ⟨A, c, 0, rfl, ho.read, hb⟩
theorem w_controlsR (l : List Fld) (hj : (l.map (fun f => f.1.length + f.2.length + 3)).sum ≤ 1048576) (A : Option Addr) (c : Nat) (w : World) (hr : ReadL encF w w.heap.size A l) :
    Calls Try.prog 89 #[.slice A l.length c] w (fun e w' => ∃ A' c', e = .returned (.slice A' (dirsE l).length c') ∧ ReadL encD w' w'.heap.size A' (dirsE l) ∧ Below w.heap.size w w') := by
  have hg := w_GetRS ccN (by decide) l hj A c w hr
  have hjl := join_ok (nm := lowL ccN) hj
  have hp := fun W => w_CtlParseR (Lib.join (valsL (lowL ccN) l) sepL) (by omega) W
  have hq := fun {W e W'} => dirs_post (l := l) (w := W) (e := e) (w' := W')
  generalize Lib.join (valsL (lowL ccN) l) sepL = s at *
  generalize (valsL (lowL ccN) l).isEmpty = b at *
  generalize dirsE l = D at *
  go_enter Try.func89, Try.ntmps89
  go_wp2_with fail
  refine hg.mono ?_
  rintro e w1 ⟨rfl, hb1⟩
  go_wp2_with fail
  refine (hp _).mono ?_
  intro e w2 hpost
  obtain ⟨A2, c2, n2, rfl, hr2, hb2⟩ := hq hpost
  clear hpost hq hp hg
  have Hr2 := Lib.hid hr2
  clear hr2
  go_wp2_with fail
  go_ret
  exact ⟨A2, c2, rfl, Hr2.out, hb1.trans (hb2.mono hb1.size)⟩
theorem w_storedR (n : Int) (w : World) : Calls Try.prog 90 #[.int .i64 n] w fun e w' => e = .returned (.bool (codeB n)) ∧ Below w.heap.size w w' := by
  have hlit : ReadL Go.Larder.encI (w.alloc (.cells #[.int .i64 200, .int .i64 203, .int .i64 204, .int .i64 300, .int .i64 301, .int .i64 308, .int .i64 404, .int .i64 405, .int .i64 410, .int .i64 414, .int .i64 501] 3)) (w.heap.size + 1) (some ⟨w.heap.size, 0, none⟩) codesL := ReadL.lit (E := Go.Larder.encI) w #[.int .i64 200, .int .i64 203, .int .i64 204, .int .i64 300, .int .i64 301, .int .i64 308, .int .i64 404, .int .i64 405, .int .i64 410, .int .i64 414, .int .i64 501] _ codesL rfl
  have hc := w_HasI n codesL (by decide) (some ⟨w.heap.size, 0, none⟩) 11 _ _ hlit
  have hcb : (codesL.any fun y => n == y) = codeB n := rfl
  rw [hcb] at hc
  go_enter Try.func90, Try.ntmps90
  go_wp2_with fail
  refine hc.mono ?_
  rintro e w' ⟨rfl, rfl⟩
  go_wp2_with fail
  go_ret
  exact ⟨rfl, (Below.refl _ _).alloc (Nat.le_refl _) _⟩
end Go.Proofs.Ytmhhjmncbclihaa
