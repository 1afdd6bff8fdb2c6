/- Walk: strings.Trim at blanks, as trim. -/
import Derived.Test.YtmhhjmncbclihaaDoorChecked
import Derived.Test.YtmhhjmncbclihaaDoorSpecTok
import Derived.Test.YtmhhjmncbclihaaDoorShelf
import Derived.Lib.AsciiSet
namespace Go.Proofs.YtmhhjmncbclihaaDoor
open Go.RowKit Go.Larder
set_option linter.unusedVariables false
set_option linter.unusedSimpArgs false

theorem blank_nat : ∀ n : Fin 256, ([32, 9] : List UInt8).contains (UInt8.ofNat n.val) = isB (UInt8.ofNat n.val) := by decide +kernel
theorem blank_eq (c : UInt8) : ([32, 9] : List UInt8).contains c = isB c := by
  have := blank_nat ⟨c.toNat, c.toNat_lt⟩
  simpa using this

/-- The set of blanks lies at block b. -/
def SetAt (w : World) (b : Nat) : Prop := ∀ x : UInt8, w.cell? ⟨b, x.toNat, none⟩ = some (.bool (isB x))

theorem w_contains (x : UInt8) (b : Nat) (w : World) (h : SetAt w b) :
    Calls Tryd.prog 143 #[.pointer (some ⟨b, 0, none⟩), .int .u8 x.toNat] w fun e w' => e = .returned (.bool (isB x)) ∧ w = w' :=
  (Tryd.asciiSet_contains b x (isB x) w (h x)).mono fun e w' ⟨he, hw⟩ => ⟨he, hw.symm⟩

theorem w_trimL (l : List UInt8) (hl : l.length ≤ 140737488351232) (b : Nat) (w : World) (hS : SetAt w b) :
    Calls Tryd.prog 124 #[S l, .pointer (some ⟨b, 0, none⟩)] w fun e w' => e = .returned (S (l.dropWhile isB)) ∧ w = w' := by
  have HS := Lib.hid hS
  clear hS
  go_enter Tryd.func124, Tryd.ntmps124
  go_wp2_with fail
  go_loop [0] (fun v => ∃ r : List UInt8, v = S r ∧ r.length ≤ l.length ∧ r.dropWhile isB = l.dropWhile isB) (fun v => lenOf v)
  case atStart => exact ⟨_, rfl, Nat.le_refl _, rfl⟩
  case round =>
    obtain ⟨r, rfl, hr, hd⟩ := hrel
    have Hd := Lib.hid hd; clear hd
    rcases r with _ | ⟨a, r⟩
    · go_wp2_with fail
      go_ret
      exact ⟨ret_S (by rw [← Hd.out]; rfl), rfl⟩
    · simp only [List.length_cons] at hr
      cases hb : isB a
      · go_wp2_with (go_at_call 143; refine (w_contains a b _ HS.out).mono ?_; rintro e w' ⟨rfl, rfl⟩)
        go_ret
        exact ⟨ret_S (by rw [← Hd.out, List.dropWhile_cons, hb]; rfl), rfl⟩
      · go_wp2_with (go_at_call 143; refine (w_contains a b _ HS.out).mono ?_; rintro e w' ⟨rfl, rfl⟩)
        exact ⟨⟨r, rfl, by omega, by rw [← Hd.out, List.dropWhile_cons, hb]; rfl⟩, by simp [lenOf_S]⟩

theorem w_trimRt (l : List UInt8) (hl : l.length ≤ 140737488351232) (b : Nat) (w : World) (hS : SetAt w b) :
    Calls Tryd.prog 125 #[S l, .pointer (some ⟨b, 0, none⟩)] w fun e w' => e = .returned (S (trimR l)) ∧ w = w' := by
  have HS := Lib.hid hS
  clear hS
  go_enter Tryd.func125, Tryd.ntmps125
  go_wp2_with fail
  go_loop [0] (fun v => ∃ r : List UInt8, v = S r ∧ r.length ≤ l.length ∧ trimR r = trimR l) (fun v => lenOf v)
  case atStart => exact ⟨l, rfl, Nat.le_refl _, rfl⟩
  case round =>
    obtain ⟨r, rfl, hr, hd⟩ := hrel
    have Hd := Lib.hid hd; clear hd
    rcases nil_or_snoc r with rfl | ⟨r, c, rfl⟩
    · go_wp2_with fail
      go_ret
      exact ⟨ret_S (by rw [← Hd.out]; rfl), rfl⟩
    · simp only [List.length_append, List.length_singleton] at hr
      cases hb : isB c
      · go_wp2_with (go_at_call 143; refine (w_contains c b _ HS.out).mono ?_; rintro e w' ⟨rfl, rfl⟩)
        go_ret
        exact ⟨ret_S (by rw [← Hd.out, trimR_snoc, hb]; rfl), rfl⟩
      · go_wp2_with (go_at_call 143; refine (w_contains c b _ HS.out).mono ?_; rintro e w' ⟨rfl, rfl⟩)
        exact ⟨⟨r, rfl, by omega, by rw [← Hd.out, trimR_snoc, hb]; rfl⟩, by simp [lenOf_S]⟩

theorem dropWhile_len (l : List UInt8) : (l.dropWhile isB).length ≤ l.length := (List.dropWhile_sublist isB).length_le
theorem trimR_len (l : List UInt8) : (trimR l).length ≤ l.length := by
  unfold trimR
  rw [List.length_reverse]
  have := (List.dropWhile_sublist isB (l := l.reverse)).length_le
  rwa [List.length_reverse] at this
theorem drop_all : ∀ (p m : List UInt8), p.all isB = true → (p ++ m).dropWhile isB = m.dropWhile isB
  | [], m, _ => rfl
  | a :: p, m, h => by
    rw [List.all_cons, Bool.and_eq_true] at h
    rw [List.cons_append, List.dropWhile_cons, if_pos h.1]
    exact drop_all p m h.2
theorem drop_nil_all : ∀ {l : List UInt8}, l.dropWhile isB = [] → ∀ x ∈ l, isB x = true
  | [], _, x, hx => by simp at hx
  | a :: l, h, x, hx => by
    rw [List.dropWhile_cons] at h
    by_cases ha : isB a = true
    · rw [if_pos ha] at h
      rcases List.mem_cons.1 hx with rfl | hx
      · exact ha
      · exact drop_nil_all h x hx
    · rw [if_neg ha] at h; cases h
theorem all_drop_nil : ∀ {l : List UInt8}, (∀ x ∈ l, isB x = true) → l.dropWhile isB = []
  | [], _ => rfl
  | a :: l, h => by
    rw [List.dropWhile_cons, if_pos (h a (by simp))]
    exact all_drop_nil fun x hx => h x (by simp [hx])
/-- Which side first makes no difference. -/
theorem trim_swap (l : List UInt8) : (trimR l).dropWhile isB = trim l := by
  unfold trim
  induction l with
  | nil => rfl
  | cons a l ih =>
    rcases nil_or_snoc (trimR (a :: l)) with h | ⟨m, b, h⟩
    · -- all blank
      rw [h]
      have hall : ∀ x ∈ (a :: l).reverse, isB x = true := by
        unfold trimR at h
        have h1 : (a :: l).reverse.dropWhile isB = [] := by simpa using congrArg List.reverse h
        exact drop_nil_all h1
      have hd : (a :: l).dropWhile isB = [] := all_drop_nil fun x hx => hall x (List.mem_reverse.2 hx)
      rw [hd]; rfl
    · by_cases ha : isB a = true
      · rw [List.dropWhile_cons, if_pos ha, ← ih]
        -- a is blank: trimR (a :: l) = a :: trimR l, if l is not all blank
        have h2 : trimR (a :: l) = a :: trimR l ∨ trimR (a :: l) = [] := by
          unfold trimR
          rw [List.reverse_cons, List.dropWhile_append]
          by_cases he : (l.reverse.dropWhile isB).isEmpty = true
          · rw [if_pos he, List.dropWhile_cons, if_pos ha]; exact .inr rfl
          · rw [if_neg he]; exact .inl (by simp)
        rcases h2 with h2 | h2
        · rw [h2, List.dropWhile_cons, if_pos ha]
        · rw [h2] at h; simp at h
      · rw [List.dropWhile_cons, if_neg ha]
        have h2 : ∃ t, trimR (a :: l) = a :: t := by
          unfold trimR
          rw [List.reverse_cons, List.dropWhile_append]
          by_cases he : (l.reverse.dropWhile isB).isEmpty = true
          · rw [if_pos he, List.dropWhile_cons, if_neg ha]; exact ⟨[], rfl⟩
          · rw [if_neg he]; exact ⟨(l.reverse.dropWhile isB).reverse, by simp⟩
        obtain ⟨t, h2⟩ := h2
        rw [h2, List.dropWhile_cons, if_neg ha]

theorem zero_set : ∀ w, (zeroValue 185).run Tryd.prog w = .ok (.agg (Array.replicate 256 (.bool false))) w := fun w => by kernel_rfl
set_option maxHeartbeats 4000000 in
set_option maxRecDepth 100000 in
theorem w_Trim (l : List UInt8) (hl : l.length ≤ 140737488351232) (w : World) :
    Calls Tryd.prog 96 #[S l, S [32, 9]] w fun e w' => e = .returned (S (trim l)) ∧ Below w.heap.size w w' := by
  rcases l with _ | ⟨a, l⟩
  · go_enter Tryd.func96, Tryd.ntmps96
    go_wp2_with fail
    go_ret
    exact ⟨rfl, Below.refl _ _⟩
  · have hM := Tryd.strings_makeASCIISet zero_set ⟨[32, 9].toArray⟩ w (by decide) (by
      intro j b h
      rcases j with _ | _ | j
      · have : b = 32 := by simpa using h.symm
        subst this; decide
      · have : b = 9 := by simpa using h.symm
        subst this; decide
      · simp at h)
    have hdat : (⟨([32, 9] : List UInt8).toArray⟩ : ByteArray).data.toList = [32, 9] := rfl
    rw [hdat] at hM
    have hsz := Lib.setCells_size [32, 9]
    have hi : ((Tryd.prog).info? 185).map (·.size) = some 256 := by kernel_rfl
    have hsc : (storeCells ⟨w.heap.size + 1, 0, none⟩ (Lib.setCells [32, 9]).toList 0).run Tryd.prog ((w.alloc (.cells (Lib.setCells [32, 9]) 185)).alloc (.cells (Array.replicate 256 (.bool false)) 185)) = .ok () ((w.alloc (.cells (Lib.setCells [32, 9]) 185)).alloc (.cells (Lib.setCells [32, 9]) 185)) := by
      have := run_storeCells_new (P := Tryd.prog) (w.alloc (.cells (Lib.setCells [32, 9]) 185)) 185 (Array.replicate 256 (.bool false)) (Lib.setCells [32, 9]) (by rw [Lib.setCells_size]; exact hi) (by rw [Lib.setCells_size, Array.size_replicate])
      have hone : ((Lib.setCells [32, 9]).all fun x => x.oneCell') = true := by kernel_rfl
      have h9 := this hone
      simpa using h9
    have hset : SetAt ((w.alloc (.cells (Lib.setCells [32, 9]) 185)).alloc (.cells (Lib.setCells [32, 9]) 185)) (w.heap.size + 1) := fun x => by
      rw [World.cell?_alloc_at _ _ _ _ (by simp), Lib.setCells_at, blank_eq]
    generalize Lib.setCells [32, 9] = cs at *
    have Hset := Lib.hid hset
    clear hset
    go_enter Tryd.func96, Tryd.ntmps96
    go_wp2_with (go_at_call 123; refine hM.mono ?_; rintro e w' ⟨rfl, hw⟩; rw [hw])
    simp only [show Tryd.zeroCells185 = Array.replicate 256 (Value.bool false) from by kernel_rfl, hsc, Result.andThen]
    rw [Oper.upon_skip]
    go_wp2_with (first
      | (go_at_call 125; refine (w_trimRt (a :: l) hl _ _ Hset.out).mono ?_; rintro e w' ⟨rfl, rfl⟩)
      | (go_at_call 124; refine (w_trimL (trimR (a :: l)) (Nat.le_trans (trimR_len _) hl) _ _ Hset.out).mono ?_; rintro e w' ⟨rfl, rfl⟩))
    go_ret
    exact ⟨ret_S (trim_swap (a :: l)), ((Below.refl _ _).alloc (Nat.le_refl _) _).alloc (by simp) _⟩
end Go.Proofs.YtmhhjmncbclihaaDoor
