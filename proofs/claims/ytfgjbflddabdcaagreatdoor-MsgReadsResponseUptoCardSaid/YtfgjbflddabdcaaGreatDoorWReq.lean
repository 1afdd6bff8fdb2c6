/- Walks: requests' lines: the program's, the reference's. -/
import Derived.Test.YtfgjbflddabdcaaGreatDoorWLine
namespace Go.Proofs.YtfgjbflddabdcaaGreatDoor
open Go.RowKit Go.Larder
set_option linter.unusedVariables false
set_option linter.unusedSimpArgs false

theorem w_isMethod (m : List UInt8) (hm : m.length ≤ 140737488351232) (w : World) :
    Calls Tryz.prog 30 #[S m] w fun e w' => e = .returned (.bool (isTok m && decide (m.length ≤ 30))) ∧ w = w' := by
  have ht := fc_IsToken m hm w
  cases htk : isTok m
  · rw [htk] at ht
    go_enter Tryz.func30, Tryz.ntmps30
    go_wp2_with (go_at_call 56; refine ht.mono ?_; rintro e w' ⟨rfl, rfl⟩)
    go_ret
    exact ⟨rfl, rfl⟩
  · rw [htk] at ht
    go_enter Tryz.func30, Tryz.ntmps30
    go_wp2_with (go_at_call 56; refine ht.mono ?_; rintro e w' ⟨rfl, rfl⟩)
    go_ret
    exact ⟨by simp; omega, rfl⟩

set_option maxHeartbeats 1000000 in
theorem w_within (l : List UInt8) (hl : l.length ≤ 140737488351232) (lo hi : UInt8) (w : World) :
    Calls Tryz.prog 57 #[S l, .int .u8 lo.toNat, .int .u8 hi.toNat] w fun e w' => e = .returned (.bool (l.all fun c => decide ((lo.toNat : Int) ≤ c.toNat) && decide ((c.toNat : Int) ≤ hi.toNat))) ∧ w = w' := by
  generalize hp : (fun c : UInt8 => decide ((lo.toNat : Int) ≤ c.toNat) && decide ((c.toNat : Int) ≤ hi.toNat)) = p
  have Hp := Lib.hid hp
  clear hp
  go_enter Tryz.func57, Tryz.ntmps57
  go_wp2_with fail
  go_loop [10] (fun i' => ∃ k : Nat, i' = .int .i64 k ∧ k ≤ l.length ∧ Hid ((l.drop k).all p = l.all p)) (fun i' => l.length - (intOf i').toNat)
  case atStart => exact ⟨0, rfl, by omega, Lib.hid rfl⟩
  case round =>
    obtain ⟨k, rfl, hk, Hd⟩ := hrel
    by_cases hlt : k < l.length
    · obtain ⟨x, hx, hs⟩ := drop_step hlt
      have hg : ∀ h, l[k]'h = x := fun h => by rw [List.getElem?_eq_getElem h] at hx; exact Option.some.inj hx
      have Hs := Lib.hid hs; clear hs hx
      by_cases h1 : (x.toNat : Int) < lo.toNat
      · have Hx := Lib.hid (show p x = false from by rw [← Hp.out]; simp; omega)
        go_wp2_with fail
        go_ret
        exact ⟨ret_bool (by rw [← Hd.out, Hs.out, List.all_cons, Hx.out]; rfl), rfl⟩
      · by_cases h2 : (hi.toNat : Int) < x.toNat
        · have Hx := Lib.hid (show p x = false from by rw [← Hp.out]; simp; omega)
          go_wp2_with fail
          go_ret
          exact ⟨ret_bool (by rw [← Hd.out, Hs.out, List.all_cons, Hx.out]; rfl), rfl⟩
        · have Hx := Lib.hid (show p x = true from by rw [← Hp.out]; simp; omega)
          go_wp2_with fail
          go_round
          case rel => exact ⟨k + 1, by go_num, by omega, Lib.hid (by rw [← Hd.out, Hs.out, List.all_cons, Hx.out]; rfl)⟩
          case measure => simp [intOf]; omega
    · go_wp2_with fail
      go_ret
      exact ⟨ret_bool (by rw [← Hd.out, drop_end hlt]; rfl), rfl⟩

def tgtOK (t : List UInt8) : Bool := !t.isEmpty && decide (t.length ≤ 200) && t.all isTg
set_option maxRecDepth 100000 in
theorem w_isTarget (t : List UInt8) (ht : t.length ≤ 140737488351232) (w : World) :
    Calls Tryz.prog 31 #[S t] w fun e w' => e = .returned (.bool (tgtOK t)) ∧ w = w' := by
  have hw := w_within t ht 33 126 w
  have he : (fun c : UInt8 => decide (((33 : UInt8).toNat : Int) ≤ c.toNat) && decide ((c.toNat : Int) ≤ (126 : UInt8).toNat)) = isTg := rfl
  rw [he] at hw
  unfold tgtOK
  cases t with
  | nil =>
    go_enter Tryz.func31, Tryz.ntmps31
    go_wp2_with fail
    go_ret
    exact ⟨rfl, rfl⟩
  | cons a t =>
    have hne : (a :: t).isEmpty = false := rfl
    have hT0 : ¬ a :: t = [] := by simp
    generalize a :: t = T at *
    obtain ⟨R, hR⟩ : ∃ R, (!T.isEmpty && decide (T.length ≤ 200) && T.all isTg) = R := ⟨_, rfl⟩
    rw [hR]
    generalize T.all isTg = b at hw hR
    rw [hne] at hR
    have HR := Lib.hid hR
    clear hR he
    by_cases hb : T.length ≤ 200
    · go_enter Tryz.func31, Tryz.ntmps31
      go_wp2_with (go_at_call 57; refine hw.mono ?_; rintro e w' ⟨rfl, rfl⟩)
      go_ret
      exact ⟨ret_bool (by rw [← HR.out]; simp [hb]), rfl⟩
    · go_enter Tryz.func31, Tryz.ntmps31
      go_wp2_with fail
      go_ret
      exact ⟨ret_bool (by rw [← HR.out]; simp [hb]), rfl⟩

theorem reqOK_two (m t : List UInt8) : reqOK m t = ((isTok m && decide (m.length ≤ 30)) && tgtOK t) := by
  unfold reqOK tgtOK
  cases isTok m <;> cases decide (m.length ≤ 30) <;> cases t.isEmpty <;> simp
theorem reqE_bad {m t : List UInt8} (h : reqOK m t = false) : reqE m t = .error 3 := by unfold reqE; rw [h]; rfl
theorem reqE_ok {m t : List UInt8} (h : reqOK m t = true) : reqE m t = .ok (reqL m t) := by unfold reqE; rw [h]; rfl

set_option maxHeartbeats 1000000 in
theorem w_PrintReq (m t : List UInt8) (hm : m.length ≤ 140737488351232) (ht : t.length ≤ 140737488351232) (w : World) :
    Calls Tryz.prog 17 #[S m, S t] w (StPost w (reqE m t)) := by
  have h1 := w_isMethod m hm w
  have h2 := w_isTarget t ht w
  have hr := reqOK_two m t
  cases hb1 : (isTok m && decide (m.length ≤ 30))
  · rw [hb1] at h1 hr
    rw [reqE_bad hr]
    clear hb1 hr
    go_enter Tryz.func17, Tryz.ntmps17
    go_wp2_with (go_at_call 30; refine h1.mono ?_; rintro e w' ⟨rfl, rfl⟩)
    go_ret2
    exact ⟨rfl, Below.refl _ _⟩
  · cases hb2 : tgtOK t
    · rw [hb1, hb2] at hr
      rw [hb1] at h1
      rw [hb2] at h2
      rw [reqE_bad hr]
      clear hb1 hb2 hr
      go_enter Tryz.func17, Tryz.ntmps17
      go_wp2_with (first
        | (go_at_call 30; refine h1.mono ?_; rintro e w' ⟨rfl, rfl⟩)
        | (go_at_call 31; refine h2.mono ?_; rintro e w' ⟨rfl, rfl⟩))
      go_ret2
      exact ⟨rfl, Below.refl _ _⟩
    · rw [hb1, hb2] at hr
      rw [hb1] at h1
      rw [hb2] at h2
      rw [reqE_ok hr]
      have hlen : m.length ≤ 30 := by have := (reqOK_parts hr).2.1; exact this
      have hlen2 : t.length ≤ 200 := by have := (reqOK_parts hr).2.2.2.1; exact this
      clear hb1 hb2 hr
      go_enter Tryz.func17, Tryz.ntmps17
      go_wp2_with (first
        | (go_at_call 30; refine h1.mono ?_; rintro e w' ⟨rfl, rfl⟩)
        | (go_at_call 31; refine h2.mono ?_; rintro e w' ⟨rfl, rfl⟩))
      go_ret2
      exact ⟨by simp [reqL, verL], Below.refl _ _⟩

set_option maxHeartbeats 1000000 in
theorem w_LineReq (m t : List UInt8) (hm : m.length ≤ 140737488351232) (ht : t.length ≤ 140737488351232) (w : World) :
    Calls Tryz.prog 19 #[S m, S t] w (StPost w (reqE m t)) := by
  have h1 := fc_TokenR m hm w
  have hr := show reqOK m t = (isTok m && decide (m.length ≤ 30) && !t.isEmpty && decide (t.length ≤ 200) && t.all isTg) from rfl
  cases hb1 : isTok m
  · rw [hb1] at h1
    rw [reqE_bad (by rw [hr, hb1]; simp)]
    clear hb1 hr
    go_enter Tryz.func19, Tryz.ntmps19
    go_wp2_with (go_at_call 35; refine h1.mono ?_; rintro e w' ⟨rfl, rfl⟩)
    go_ret2
    exact ⟨rfl, Below.refl _ _⟩
  · rw [hb1] at h1
    by_cases hl1 : 30 < m.length
    · rw [reqE_bad (by rw [hr, show decide (m.length ≤ 30) = false from by simpa using hl1]; simp)]
      clear hb1 hr
      go_enter Tryz.func19, Tryz.ntmps19
      go_wp2_with (go_at_call 35; refine h1.mono ?_; rintro e w' ⟨rfl, rfl⟩)
      go_ret2
      exact ⟨rfl, Below.refl _ _⟩
    · have hl1' : m.length ≤ 30 := by omega
      cases t with
      | nil =>
        rw [reqE_bad (by rw [hr]; simp)]
        clear hb1 hr
        go_enter Tryz.func19, Tryz.ntmps19
        go_wp2_with (go_at_call 35; refine h1.mono ?_; rintro e w' ⟨rfl, rfl⟩)
        go_ret2
        exact ⟨rfl, Below.refl _ _⟩
      | cons a t =>
        have hne : (a :: t).isEmpty = false := rfl
        generalize hT : a :: t = T at hr ht hne
        have hT0 : ¬ T = [] := by rw [← hT]; simp
        by_cases hl2 : 200 < T.length
        · rw [reqE_bad (by rw [hr, show decide (T.length ≤ 200) = false from by simpa using hl2]; simp)]
          clear hb1 hr hT
          go_enter Tryz.func19, Tryz.ntmps19
          go_wp2_with (go_at_call 35; refine h1.mono ?_; rintro e w' ⟨rfl, rfl⟩)
          go_ret2
          exact ⟨rfl, Below.refl _ _⟩
        · have hpl := fc_plainR T ht w
          rw [all_tg] at hr
          cases hp : T.all isPl
          · rw [hp] at hpl hr
            rw [reqE_bad (by rw [hr]; simp)]
            clear hb1 hr hT hp
            go_enter Tryz.func19, Tryz.ntmps19
            go_wp2_with (first
              | (go_at_call 35; refine h1.mono ?_; rintro e w' ⟨rfl, rfl⟩)
              | (go_at_call 36; refine hpl.mono ?_; rintro e w' ⟨rfl, rfl⟩))
            go_ret2
            exact ⟨rfl, Below.refl _ _⟩
          · have hca := w_ContainsAny T [32, 9] (by omega) (by decide) (plain_asc hp) (by decide) w
            rw [hp] at hpl hr
            cases hc : Lib.containsAny T [32, 9]
            · rw [hc] at hca hr
              rw [reqE_ok (by rw [hr, hb1, hne, show decide (m.length ≤ 30) = true from by simpa using hl1', show decide (T.length ≤ 200) = true from by simp; omega]; rfl)]
              clear hb1 hr hT hp hc
              go_enter Tryz.func19, Tryz.ntmps19
              go_wp2_with (first
                | (go_at_call 35; refine h1.mono ?_; rintro e w' ⟨rfl, rfl⟩)
                | (go_at_call 36; refine hpl.mono ?_; rintro e w' ⟨rfl, rfl⟩)
                | (go_at_call 37; refine hca.mono ?_; rintro e w1 ⟨rfl, hb1⟩))
              go_ret2
              exact ⟨by simp [reqL, verL], hb1⟩
            · rw [hc] at hca hr
              rw [reqE_bad (by rw [hr]; simp)]
              clear hb1 hr hT hp hc
              go_enter Tryz.func19, Tryz.ntmps19
              go_wp2_with (first
                | (go_at_call 35; refine h1.mono ?_; rintro e w' ⟨rfl, rfl⟩)
                | (go_at_call 36; refine hpl.mono ?_; rintro e w' ⟨rfl, rfl⟩)
                | (go_at_call 37; refine hca.mono ?_; rintro e w1 ⟨rfl, hb1⟩))
              go_ret2
              exact ⟨rfl, hb1⟩

/-- Two texts, a number, an error. -/
def flatQ : Except Int (List UInt8 × List UInt8 × Nat) → List UInt8 × List UInt8 × Int × Int
  | .error n => ([], [], 0, n)
  | .ok (a, b, k) => (a, b, k, 0)
def ReqPost (w : World) (r : Except Int (List UInt8 × List UInt8 × Nat)) (e : Ending) (w' : World) : Prop :=
  (∃ a b k n, e = .returned (.tuple #[S a, S b, .int .i64 k, .int .i64 n]) ∧ (a, b, k, n) = flatQ r) ∧ Below w.heap.size w w'
theorem reqPost_err {w w' : World} {n : Int} (hb : Below w.heap.size w w') : ReqPost w (.error n) (.returned (.tuple #[S [], S [], .int .i64 0, .int .i64 n])) w' := ⟨⟨_, _, _, _, rfl, rfl⟩, hb⟩
theorem reqPost_ok {w w' : World} {a b : List UInt8} {k : Nat} {k' : Int} (hk : k' = k) (hb : Below w.heap.size w w') : ReqPost w (.ok (a, b, k)) (.returned (.tuple #[S a, S b, .int .i64 k', .int .i64 0])) w' := ⟨⟨_, _, _, _, rfl, by rw [hk]; rfl⟩, hb⟩

end Go.Proofs.YtfgjbflddabdcaaGreatDoor
