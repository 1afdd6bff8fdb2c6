/- Walks: conditions on a tag. -/
import Derived.Test.YtcoghpokkhjhgaaGreatDoorWTl
import Derived.Test.YtcoghpokkhjhgaaGreatDoorWTagC
import Derived.Test.YtcoghpokkhjhgaaGreatDoorWGetS
import Derived.Test.YtcoghpokkhjhgaaGreatDoorBoxAt
import Derived.Test.YtcoghpokkhjhgaaGreatDoorSpecs
import Derived.Deep.RegionWith
import Derived.Deep.QuietTactic
import Derived.BigQuiet
namespace Go.Larder
open Go.RowKit
set_option linter.unusedVariables false
def metStrong (o x : Tg) : Bool := !x.1 && !o.1 && (x.2 == o.2)
def metWeak (o x : Tg) : Bool := x.2 == o.2
def thC (there tagged : Bool) (o : Tg) (md : Int) : List Value := [.bool there, .bool tagged, .bool o.1, S o.2, .int .i64 md]
/-- what the closure has captured: the comparison, the thing -/
def ThAt (w : World) (B b7 b4 : Nat) (f : Value) (o : Tg) : Prop := b7 < B ∧ b4 < B ∧ w.cell? ⟨b7, 0, none⟩ = some f ∧ w.cell? ⟨b4, 2, none⟩ = some (.bool o.1) ∧ w.cell? ⟨b4, 3, none⟩ = some (S o.2)
theorem ThAt.below {w w' : World} {B B' B2 b7 b4 : Nat} {f : Value} {o : Tg} (h : ThAt w B b7 b4 f o) (hb : Below B2 w w') (hB : B ≤ B2) (hB' : B ≤ B') : ThAt w' B' b7 b4 f o := by
  obtain ⟨h1, h2, h3, h4, h5⟩ := h
  exact ⟨by omega, by omega, (hb.cell (p := ⟨b7, 0, none⟩) (by show b7 < B2; omega)).trans h3, (hb.cell (p := ⟨b4, 2, none⟩) (by show b4 < B2; omega)).trans h4, (hb.cell (p := ⟨b4, 3, none⟩) (by show b4 < B2; omega)).trans h5⟩
end Go.Larder
namespace Go.Proofs.YtcoghpokkhjhgaaGreatDoor
open Go.RowKit Go.Larder
set_option linter.unusedVariables false
set_option linter.unusedSimpArgs false
theorem tlE_len (s : List UInt8) (hs : s.length ≤ 140737488351232) : (tlE s).1.length ≤ 140737488351232 := by
  unfold tlE
  split
  · simp
  · split
    · simp
    · simp only
      unfold tlR
      split
      · simp
      · split
        · simp
        · split
          · simp
          · simp only; omega
/-- is the field there and readable; does it meet -/
def meetsE (nm : List UInt8) (l : List Fld) (there tagged : Bool) (met : Tg → Bool) : Bool × Bool :=
  if (valsL (lowL nm) l).isEmpty then (false, false)
  else if (tlE (Lib.join (valsL (lowL nm) l) sepL)).2.2 = 0 then (true, if (tlE (Lib.join (valsL (lowL nm) l) sepL)).2.1 then there else there && (tagged && (tlE (Lib.join (valsL (lowL nm) l) sepL)).1.any met))
  else (false, false)

theorem w_tags1Strong (x o : Tg) (b7 b4 : Nat) (w : World) (h : ThAt w w.heap.size b7 b4 (.func (.func 11) #[] #[]) o) :
    Calls Tryz.prog 33 #[.agg #[.bool x.1, S x.2], .pointer (some ⟨b7, 0, none⟩), .pointer (some ⟨b4, 0, none⟩)] w fun e w' => e = .returned (.bool (metStrong o x)) ∧ Below w.heap.size w w' := by
  obtain ⟨x1, x2⟩ := x
  obtain ⟨o1, o2⟩ := o
  obtain ⟨h1, h2, h3, h4, h5⟩ := h
  have k3 := (World.cell?_alloc_lt w (.cells #[.bool x1, S x2] 34) ⟨b7, 0, none⟩ h1).trans h3
  have k4 := (World.cell?_alloc_lt w (.cells #[.bool x1, S x2] 34) ⟨b4, 2, none⟩ h2).trans h4
  have k5 := (World.cell?_alloc_lt w (.cells #[.bool x1, S x2] 34) ⟨b4, 3, none⟩ h2).trans h5
  have hc := fun W => w_Strong x1 o1 x2 o2 W
  have hb0 : Below w.heap.size w (w.alloc (.cells #[.bool x1, S x2] 34)) := (Below.refl _ _).alloc (Nat.le_refl _) _
  clear h3 h4 h5
  go_enter Tryz.func33, Tryz.ntmps33
  go_wp2_with fail
  refine (hc _).mono ?_
  rintro e w2 ⟨rfl, hb2⟩
  go_wp2_with fail
  go_ret
  exact ⟨rfl, hb0.trans (hb2.mono hb0.size)⟩
set_option maxHeartbeats 1000000 in
theorem w_tidxStrong (l : List Tg) (hl : l.length ≤ 140737488351232) (A : Option Addr) (c : Nat) (o : Tg) (b7 b4 : Nat) (w : World) (hr : ReadL encT w w.heap.size A l) (h : ThAt w w.heap.size b7 b4 (.func (.func 11) #[] #[]) o) :
    Calls Tryz.prog 58 #[.slice A l.length c, .func (.func 33) #[] #[.pointer (some ⟨b7, 0, none⟩), .pointer (some ⟨b4, 0, none⟩)]] w fun e w' => (∃ n : Int, e = .returned (.int .i64 n) ∧ decide (0 ≤ n) = l.any (metStrong o)) ∧ Below w.heap.size w w' := by
  go_enter Tryz.func58, Tryz.ntmps58
  go_wp2_with fail
  go_loopw [8] (fun i' wr => ∃ k : Nat, i' = .int .i64 k ∧ k ≤ l.length ∧ Hid (((l.drop k).any (metStrong o)) = (l.any (metStrong o))) ∧ Below w.heap.size w wr) (fun i' _ => l.length - (intOf i').toNat)
  case atStart => exact ⟨0, rfl, by omega, Lib.hid rfl, Below.refl _ _⟩
  case round =>
    obtain ⟨k, rfl, hk, heq, hbel⟩ := hrel
    by_cases hlt : k < l.length
    · obtain ⟨⟨x1, x2⟩, hx, hs⟩ := drop_step hlt
      obtain ⟨g, off, hA, hgb, hc0, hc1⟩ := (hr.below hbel (Nat.le_refl _)).at_T hx
      subst hA
      have he := heq.out
      rw [hs, List.any_cons] at he
      have hcl := w_tags1Strong (x1, x2) o b7 b4 wr (h.below hbel (Nat.le_refl _) hbel.size)
      simp only at hcl
      generalize metStrong o (x1, x2) = B at *
      cases B
      · have He := Lib.hid (show ((l.drop (k + 1)).any (metStrong o)) = (l.any (metStrong o)) from by simpa using he)
        clear he hs hx heq h
        go_wp2_with fail
        refine hcl.mono ?_
        rintro e w2 ⟨rfl, hb2⟩
        go_wp2_with fail
        go_roundw
        case rel => exact ⟨k + 1, by go_num, by omega, He, hbel.trans (hb2.mono hbel.size)⟩
        case measure => simp [intOf]; omega
      · have He := Lib.hid (show (l.any (metStrong o)) = true from by simpa using he.symm)
        clear he hs hx heq h
        go_wp2_with fail
        refine hcl.mono ?_
        rintro e w2 ⟨rfl, hb2⟩
        go_wp2_with fail
        go_ret
        exact ⟨⟨_, rfl, by rw [He.out]; simp⟩, hbel.trans (hb2.mono hbel.size)⟩
    · have he := heq.out
      rw [drop_end hlt] at he
      have He := Lib.hid he.symm
      clear he heq h
      go_wp2_with fail
      go_ret
      exact ⟨⟨_, rfl, by rw [He.out]; rfl⟩, hbel⟩
theorem w_tanyStrong (l : List Tg) (hl : l.length ≤ 140737488351232) (A : Option Addr) (c : Nat) (o : Tg) (b7 b4 : Nat) (w : World) (hr : ReadL encT w w.heap.size A l) (h : ThAt w w.heap.size b7 b4 (.func (.func 11) #[] #[]) o) :
    Calls Tryz.prog 32 #[.slice A l.length c, .func (.func 33) #[] #[.pointer (some ⟨b7, 0, none⟩), .pointer (some ⟨b4, 0, none⟩)]] w fun e w' => e = .returned (.bool (l.any (metStrong o))) ∧ Below w.heap.size w w' := by
  have hi := w_tidxStrong l hl A c o b7 b4 w hr h
  clear h
  go_enter Tryz.func32, Tryz.ntmps32
  go_wp2_with fail
  refine hi.mono ?_
  rintro e w2 ⟨⟨n, rfl, hn⟩, hb2⟩
  have Hn := Lib.hid hn
  clear hn
  go_wp2_with fail
  go_ret
  exact ⟨by rw [← Hn.out]; rfl, hb2⟩
set_option maxHeartbeats 4000000 in
theorem w_tagsStrong (nm : List UInt8) (hnm : nm.length ≤ 1000) (l : List Fld) (hj : (l.map (fun f => f.1.length + f.2.length + 3)).sum ≤ 1048576) (A : Option Addr) (c : Nat) (w : World) (hr : ReadL encF w w.heap.size A l) (there tagged : Bool) (o : Tg) (md : Int) :
    Calls Tryz.prog 10 #[.agg (thC there tagged o md).toArray, .slice A l.length c, S nm, .func (.func 11) #[] #[]] w fun e w' => e = .returned (.tuple #[.bool (meetsE nm l there tagged (metStrong o)).1, .bool (meetsE nm l there tagged (metStrong o)).2]) ∧ Below w.heap.size w w' := by
  obtain ⟨o1, o2⟩ := o
  obtain ⟨W0, hW0⟩ : ∃ W0, ((w.alloc (.cells (thC there tagged (o1, o2) md).toArray 39)).alloc (.cells #[.func (.func 11) #[] #[]] 42)) = W0 := ⟨_, rfl⟩
  have hb0 : Below w.heap.size w W0 := by rw [← hW0]; exact ((Below.refl _ _).alloc (Nat.le_refl _) _).alloc (by simp) _
  have bx : BoxAt W0 w.heap.size 39 (thC there tagged (o1, o2) md) := by rw [← hW0]; exact (BoxAt.new w (thC there tagged (o1, o2) md) 39).alloc _
  have by_ : BoxAt W0 (w.heap.size + 1) 42 [.func (.func 11) #[] #[]] := by
    rw [← hW0]
    have := BoxAt.new (w.alloc (.cells (thC there tagged (o1, o2) md).toArray 39)) [.func (.func 11) #[] #[]] 42
    simpa using this
  have hr0 := (hr.below hb0 (Nat.le_refl _)).more hb0.size
  have hg := w_GetS nm hnm l hj A c W0 hr0
  have hjl := join_ok (nm := lowL nm) hj
  unfold meetsE
  generalize Lib.join (valsL (lowL nm) l) sepL = s at *
  generalize (valsL (lowL nm) l).isEmpty = em at *
  have hls := fun W => w_TagList s (by omega) W
  have hll := tlE_len s (by omega)
  generalize tlE s = x at *
  obtain ⟨lst, star, en⟩ := x
  simp only at hls hll ⊢
  have hHW := Lib.hid hW0
  unfold thC at *
  go_enter Tryz.func10, Tryz.ntmps10
  go_wp2_with fail
  have hW1 := hHW.out
  simp only [List.toArray] at hW1
  try rw [hW1]
  clear hW1 hW0 hHW
  refine hg.mono ?_
  rintro e w1 ⟨rfl, hb1⟩
  have bx1 := bx.keep hb1
  have by1 := by_.keep hb1
  have hB1 := hb0.trans (hb1.mono hb0.size)
  clear hg bx by_ hr0 hr hj
  cases em
  · go_wp2_with fail
    refine (hls _).mono ?_
    rintro e w2 ⟨A2, c2, rfl, hr2, hb2⟩
    have bx2 := bx1.keep hb2
    have by2 := by1.keep hb2
    have hB2 := hB1.trans (hb2.mono hB1.size)
    clear hls bx1 by1 hb1 hB1 hb0
    simp only at hr2
    by_cases hen : en = 0
    · subst hen
      have p0 := bx2.cell (j := 0) rfl
      have p1 := bx2.cell (j := 1) rfl
      have hth : ThAt w2 w2.heap.size (w.heap.size + 1) w.heap.size (.func (.func 11) #[] #[]) (o1, o2) := ⟨by2.lt, bx2.lt, by2.cell (j := 0) rfl, bx2.cell (j := 2) rfl, bx2.cell (j := 3) rfl⟩
      have hany := w_tanyStrong lst hll A2 c2 (o1, o2) (w.heap.size + 1) w.heap.size w2 hr2 hth
      obtain ⟨B, hBe⟩ : ∃ B, lst.any (metStrong (o1, o2)) = B := ⟨_, rfl⟩
      rw [hBe] at hany
      have HB := Lib.hid hBe
      clear hBe
      clear hth by2 bx2
      cases star <;> cases there
      · go_wp2_with fail
        go_region
        all_goals go_wp2
        all_goals go_ret2
        all_goals exact ⟨rfl, by first | exact hB2 | exact hB2.drew⟩
      · cases tagged
        · go_wp2_with fail
          go_ret2
          exact ⟨rfl, hB2⟩
        · go_wp2_with fail
          refine hany.mono ?_
          rintro e w3 ⟨rfl, hb3⟩
          go_wp2_with fail
          go_ret2
          exact ⟨by simp [HB.out], hB2.trans (hb3.mono hB2.size)⟩
      · go_wp2_with fail
        go_region
        all_goals go_wp2
        all_goals go_ret2
        all_goals exact ⟨rfl, by first | exact hB2 | exact hB2.drew⟩
      · go_wp2_with fail
        go_region
        all_goals go_wp2
        all_goals go_ret2
        all_goals exact ⟨rfl, by first | exact hB2 | exact hB2.drew⟩
    · have hen2 : (en == 0) = false := by simpa using hen
      go_wp2_with fail
      go_ret2
      exact ⟨by simp [hen], hB2⟩
  · go_wp2_with fail
    go_ret2
    exact ⟨rfl, hB1⟩

theorem w_tags1Weak (x o : Tg) (b7 b4 : Nat) (w : World) (h : ThAt w w.heap.size b7 b4 (.func (.func 13) #[] #[]) o) :
    Calls Tryz.prog 33 #[.agg #[.bool x.1, S x.2], .pointer (some ⟨b7, 0, none⟩), .pointer (some ⟨b4, 0, none⟩)] w fun e w' => e = .returned (.bool (metWeak o x)) ∧ Below w.heap.size w w' := by
  obtain ⟨x1, x2⟩ := x
  obtain ⟨o1, o2⟩ := o
  obtain ⟨h1, h2, h3, h4, h5⟩ := h
  have k3 := (World.cell?_alloc_lt w (.cells #[.bool x1, S x2] 34) ⟨b7, 0, none⟩ h1).trans h3
  have k4 := (World.cell?_alloc_lt w (.cells #[.bool x1, S x2] 34) ⟨b4, 2, none⟩ h2).trans h4
  have k5 := (World.cell?_alloc_lt w (.cells #[.bool x1, S x2] 34) ⟨b4, 3, none⟩ h2).trans h5
  have hc := fun W => w_Weak x1 o1 x2 o2 W
  have hb0 : Below w.heap.size w (w.alloc (.cells #[.bool x1, S x2] 34)) := (Below.refl _ _).alloc (Nat.le_refl _) _
  clear h3 h4 h5
  go_enter Tryz.func33, Tryz.ntmps33
  go_wp2_with fail
  refine (hc _).mono ?_
  rintro e w2 ⟨rfl, hb2⟩
  go_wp2_with fail
  go_ret
  exact ⟨rfl, hb0.trans (hb2.mono hb0.size)⟩
set_option maxHeartbeats 1000000 in
theorem w_tidxWeak (l : List Tg) (hl : l.length ≤ 140737488351232) (A : Option Addr) (c : Nat) (o : Tg) (b7 b4 : Nat) (w : World) (hr : ReadL encT w w.heap.size A l) (h : ThAt w w.heap.size b7 b4 (.func (.func 13) #[] #[]) o) :
    Calls Tryz.prog 58 #[.slice A l.length c, .func (.func 33) #[] #[.pointer (some ⟨b7, 0, none⟩), .pointer (some ⟨b4, 0, none⟩)]] w fun e w' => (∃ n : Int, e = .returned (.int .i64 n) ∧ decide (0 ≤ n) = l.any (metWeak o)) ∧ Below w.heap.size w w' := by
  go_enter Tryz.func58, Tryz.ntmps58
  go_wp2_with fail
  go_loopw [8] (fun i' wr => ∃ k : Nat, i' = .int .i64 k ∧ k ≤ l.length ∧ Hid (((l.drop k).any (metWeak o)) = (l.any (metWeak o))) ∧ Below w.heap.size w wr) (fun i' _ => l.length - (intOf i').toNat)
  case atStart => exact ⟨0, rfl, by omega, Lib.hid rfl, Below.refl _ _⟩
  case round =>
    obtain ⟨k, rfl, hk, heq, hbel⟩ := hrel
    by_cases hlt : k < l.length
    · obtain ⟨⟨x1, x2⟩, hx, hs⟩ := drop_step hlt
      obtain ⟨g, off, hA, hgb, hc0, hc1⟩ := (hr.below hbel (Nat.le_refl _)).at_T hx
      subst hA
      have he := heq.out
      rw [hs, List.any_cons] at he
      have hcl := w_tags1Weak (x1, x2) o b7 b4 wr (h.below hbel (Nat.le_refl _) hbel.size)
      simp only at hcl
      generalize metWeak o (x1, x2) = B at *
      cases B
      · have He := Lib.hid (show ((l.drop (k + 1)).any (metWeak o)) = (l.any (metWeak o)) from by simpa using he)
        clear he hs hx heq h
        go_wp2_with fail
        refine hcl.mono ?_
        rintro e w2 ⟨rfl, hb2⟩
        go_wp2_with fail
        go_roundw
        case rel => exact ⟨k + 1, by go_num, by omega, He, hbel.trans (hb2.mono hbel.size)⟩
        case measure => simp [intOf]; omega
      · have He := Lib.hid (show (l.any (metWeak o)) = true from by simpa using he.symm)
        clear he hs hx heq h
        go_wp2_with fail
        refine hcl.mono ?_
        rintro e w2 ⟨rfl, hb2⟩
        go_wp2_with fail
        go_ret
        exact ⟨⟨_, rfl, by rw [He.out]; simp⟩, hbel.trans (hb2.mono hbel.size)⟩
    · have he := heq.out
      rw [drop_end hlt] at he
      have He := Lib.hid he.symm
      clear he heq h
      go_wp2_with fail
      go_ret
      exact ⟨⟨_, rfl, by rw [He.out]; rfl⟩, hbel⟩
theorem w_tanyWeak (l : List Tg) (hl : l.length ≤ 140737488351232) (A : Option Addr) (c : Nat) (o : Tg) (b7 b4 : Nat) (w : World) (hr : ReadL encT w w.heap.size A l) (h : ThAt w w.heap.size b7 b4 (.func (.func 13) #[] #[]) o) :
    Calls Tryz.prog 32 #[.slice A l.length c, .func (.func 33) #[] #[.pointer (some ⟨b7, 0, none⟩), .pointer (some ⟨b4, 0, none⟩)]] w fun e w' => e = .returned (.bool (l.any (metWeak o))) ∧ Below w.heap.size w w' := by
  have hi := w_tidxWeak l hl A c o b7 b4 w hr h
  clear h
  go_enter Tryz.func32, Tryz.ntmps32
  go_wp2_with fail
  refine hi.mono ?_
  rintro e w2 ⟨⟨n, rfl, hn⟩, hb2⟩
  have Hn := Lib.hid hn
  clear hn
  go_wp2_with fail
  go_ret
  exact ⟨by rw [← Hn.out]; rfl, hb2⟩
set_option maxHeartbeats 4000000 in
theorem w_tagsWeak (nm : List UInt8) (hnm : nm.length ≤ 1000) (l : List Fld) (hj : (l.map (fun f => f.1.length + f.2.length + 3)).sum ≤ 1048576) (A : Option Addr) (c : Nat) (w : World) (hr : ReadL encF w w.heap.size A l) (there tagged : Bool) (o : Tg) (md : Int) :
    Calls Tryz.prog 10 #[.agg (thC there tagged o md).toArray, .slice A l.length c, S nm, .func (.func 13) #[] #[]] w fun e w' => e = .returned (.tuple #[.bool (meetsE nm l there tagged (metWeak o)).1, .bool (meetsE nm l there tagged (metWeak o)).2]) ∧ Below w.heap.size w w' := by
  obtain ⟨o1, o2⟩ := o
  obtain ⟨W0, hW0⟩ : ∃ W0, ((w.alloc (.cells (thC there tagged (o1, o2) md).toArray 39)).alloc (.cells #[.func (.func 13) #[] #[]] 42)) = W0 := ⟨_, rfl⟩
  have hb0 : Below w.heap.size w W0 := by rw [← hW0]; exact ((Below.refl _ _).alloc (Nat.le_refl _) _).alloc (by simp) _
  have bx : BoxAt W0 w.heap.size 39 (thC there tagged (o1, o2) md) := by rw [← hW0]; exact (BoxAt.new w (thC there tagged (o1, o2) md) 39).alloc _
  have by_ : BoxAt W0 (w.heap.size + 1) 42 [.func (.func 13) #[] #[]] := by
    rw [← hW0]
    have := BoxAt.new (w.alloc (.cells (thC there tagged (o1, o2) md).toArray 39)) [.func (.func 13) #[] #[]] 42
    simpa using this
  have hr0 := (hr.below hb0 (Nat.le_refl _)).more hb0.size
  have hg := w_GetS nm hnm l hj A c W0 hr0
  have hjl := join_ok (nm := lowL nm) hj
  unfold meetsE
  generalize Lib.join (valsL (lowL nm) l) sepL = s at *
  generalize (valsL (lowL nm) l).isEmpty = em at *
  have hls := fun W => w_TagList s (by omega) W
  have hll := tlE_len s (by omega)
  generalize tlE s = x at *
  obtain ⟨lst, star, en⟩ := x
  simp only at hls hll ⊢
  have hHW := Lib.hid hW0
  unfold thC at *
  go_enter Tryz.func10, Tryz.ntmps10
  go_wp2_with fail
  have hW1 := hHW.out
  simp only [List.toArray] at hW1
  try rw [hW1]
  clear hW1 hW0 hHW
  refine hg.mono ?_
  rintro e w1 ⟨rfl, hb1⟩
  have bx1 := bx.keep hb1
  have by1 := by_.keep hb1
  have hB1 := hb0.trans (hb1.mono hb0.size)
  clear hg bx by_ hr0 hr hj
  cases em
  · go_wp2_with fail
    refine (hls _).mono ?_
    rintro e w2 ⟨A2, c2, rfl, hr2, hb2⟩
    have bx2 := bx1.keep hb2
    have by2 := by1.keep hb2
    have hB2 := hB1.trans (hb2.mono hB1.size)
    clear hls bx1 by1 hb1 hB1 hb0
    simp only at hr2
    by_cases hen : en = 0
    · subst hen
      have p0 := bx2.cell (j := 0) rfl
      have p1 := bx2.cell (j := 1) rfl
      have hth : ThAt w2 w2.heap.size (w.heap.size + 1) w.heap.size (.func (.func 13) #[] #[]) (o1, o2) := ⟨by2.lt, bx2.lt, by2.cell (j := 0) rfl, bx2.cell (j := 2) rfl, bx2.cell (j := 3) rfl⟩
      have hany := w_tanyWeak lst hll A2 c2 (o1, o2) (w.heap.size + 1) w.heap.size w2 hr2 hth
      obtain ⟨B, hBe⟩ : ∃ B, lst.any (metWeak (o1, o2)) = B := ⟨_, rfl⟩
      rw [hBe] at hany
      have HB := Lib.hid hBe
      clear hBe
      clear hth by2 bx2
      cases star <;> cases there
      · go_wp2_with fail
        go_region
        all_goals go_wp2
        all_goals go_ret2
        all_goals exact ⟨rfl, by first | exact hB2 | exact hB2.drew⟩
      · cases tagged
        · go_wp2_with fail
          go_ret2
          exact ⟨rfl, hB2⟩
        · go_wp2_with fail
          refine hany.mono ?_
          rintro e w3 ⟨rfl, hb3⟩
          go_wp2_with fail
          go_ret2
          exact ⟨by simp [HB.out], hB2.trans (hb3.mono hB2.size)⟩
      · go_wp2_with fail
        go_region
        all_goals go_wp2
        all_goals go_ret2
        all_goals exact ⟨rfl, by first | exact hB2 | exact hB2.drew⟩
      · go_wp2_with fail
        go_region
        all_goals go_wp2
        all_goals go_ret2
        all_goals exact ⟨rfl, by first | exact hB2 | exact hB2.drew⟩
    · have hen2 : (en == 0) = false := by simpa using hen
      go_wp2_with fail
      go_ret2
      exact ⟨by simp [hen], hB2⟩
  · go_wp2_with fail
    go_ret2
    exact ⟨rfl, hB1⟩
end Go.Proofs.YtcoghpokkhjhgaaGreatDoor
