/- Rows: the program's and the reference's side by side. -/
import Derived.Test.YtbchkaoocobpfaaWRwP
import Derived.Test.YtbchkaoocobpfaaWRr2
import Derived.Test.YtbchkaoocobpfaaWEq
import Derived.Test.YtbchkaoocobpfaaWStp
namespace Go.Proofs.Ytbchkaoocobpfaa
open Go.RowKit Go.Larder
set_option linter.unusedVariables false
set_option linter.unusedSimpArgs false
theorem touch_same (k : List UInt8) (l : List Thg) : touchRR k l = touchR k l := rfl
/-- both rows, and a box kept aside -/
def StX (w0 : World) (b c room gx : Nat) (xs : List Value) (l m : List Thg) (W : World) : Prop :=
  ∃ gc gm L A cap, RowAt W b gc gm room L ∧ thsL L = l ∧ RefR W c room A cap m ∧ (∀ j, FRow b gc gm L j → ¬ FRr c A j) ∧ (∀ j, FRow b gc gm L j ∨ FRr c A j → w0.heap.size ≤ j ∧ j ≠ gx) ∧ BoxAt W gx 39 xs ∧ Below w0.heap.size w0 W
variable {w0 W W' : World} {b c room gx : Nat} {xs : List Value} {l m : List Thg}
theorem StX.box (h : StX w0 b c room gx xs l m W) : BoxAt W gx 39 xs := by obtain ⟨_, _, _, _, _, _, _, _, _, _, h, _⟩ := h; exact h
theorem StX.bel (h : StX w0 b c room gx xs l m W) : Below w0.heap.size w0 W := by obtain ⟨_, _, _, _, _, _, _, _, _, _, _, h⟩ := h; exact h
theorem RefR.flt {w : World} {c room cap : Nat} {A : Option Addr} {l : List Thg} (h : RefR w c room A cap l) {j : Nat} (hj : FRr c A j) : j < w.heap.size := by
  rcases hj with rfl | hj
  · exact h.box.lt
  · cases A with
    | none => simp [blkOf] at hj
    | some a =>
      have h1 : a.block = j := by simpa [blkOf] using hj
      have := h.lt a rfl
      omega
theorem StX.keep (h : StX w0 b c room gx xs l m W) (hb : Below W.heap.size W W') : StX w0 b c room gx xs l m W' := by
  obtain ⟨gc, gm, L, A, cap, h1, h2, h3, h4, h5, h6, h7⟩ := h
  exact ⟨gc, gm, L, A, cap, h1.keep hb, h2, h3.keep hb, h4, h5, h6.keep hb, h7.trans (hb.mono h7.size)⟩
theorem StX.go {gc gm cap : Nat} {L : List Lnk} {A : Option Addr} {l' : List Thg} (h1 : RowAt W b gc gm room L) (h3 : RefR W c room A cap m) (h4 : ∀ j, FRow b gc gm L j → ¬ FRr c A j) (h5 : ∀ j, FRow b gc gm L j ∨ FRr c A j → w0.heap.size ≤ j ∧ j ≠ gx)
    (h6 : BoxAt W gx 39 xs) (h7 : Below w0.heap.size w0 W) (hp : RowP W b gc gm room L l' W') : StX w0 b c room gx xs l' m W' := by
  obtain ⟨L', hr', hth, hs, hF⟩ := hp
  refine ⟨gc, gm, L', A, cap, hr', hth, h3.but hs (fun j hj hj2 => h4 j hj2 hj), fun j hj hj2 => ?_, fun j hj => ?_, hs.box h6 (fun hj => (h5 gx (.inl hj)).2 rfl), h7.trans (hs.toBelow h7.size fun j hj hf => by have := (h5 j (.inl hf)).1; omega)⟩
  · rcases hF j hj with h | h
    · exact h4 j h hj2
    · have := h3.flt hj2; omega
  · rcases hj with hj | hj
    · rcases hF j hj with h | h
      · exact h5 j (.inl h)
      · have := h7.size
        have := h6.lt
        exact ⟨by omega, by omega⟩
    · exact h5 j (.inr hj)
theorem StX.ref {gc gm cap : Nat} {L : List Lnk} {A : Option Addr} {m' : List Thg} (h1 : RowAt W b gc gm room L) (h3 : RefR W c room A cap m) (h4 : ∀ j, FRow b gc gm L j → ¬ FRr c A j) (h5 : ∀ j, FRow b gc gm L j ∨ FRr c A j → w0.heap.size ≤ j ∧ j ≠ gx)
    (h6 : BoxAt W gx 39 xs) (h7 : Below w0.heap.size w0 W) (hp : RefP W c room A m' W') : StX w0 b c room gx xs (thsL L) m' W' := by
  obtain ⟨A', cap', hr', hn, hs⟩ := hp
  have hF : ∀ j, FRr c A' j → FRr c A j ∨ W.heap.size ≤ j := fun j hj => by
    rcases hj with rfl | hj
    · exact .inl (.inl rfl)
    · cases A' with
      | none => simp [blkOf] at hj
      | some a' =>
        have e1 : a'.block = j := by simpa [blkOf] using hj
        rcases hn a' rfl with ⟨a, rfl, e2⟩ | h
        · exact .inl (.inr (by show some a.block = some j; rw [← e2, e1]))
        · exact .inr (by omega)
  refine ⟨gc, gm, L, A', cap', h1.but hs (fun j hj e => h4 j hj (.inl e)), rfl, hr', fun j hj hj2 => ?_, fun j hj => ?_, hs.box h6 (fun e => (h5 gx (.inr (.inl e))).2 rfl), h7.trans (hs.toBelow h7.size fun j hj hf => by have := (h5 j (.inr (.inl hf))).1; omega)⟩
  · rcases hF j hj2 with h | h
    · exact h4 j hj h
    · have := h1.lt hj; omega
  · rcases hj with hj | hj
    · exact h5 j (.inl hj)
    · rcases hF j hj with h | h
      · exact h5 j (.inr h)
      · have := h7.size
        have := h6.lt
        exact ⟨by omega, by omega⟩
theorem DropP.row {w w' : World} {gc gm : Nat} {L : List Lnk} {k : List UInt8} {e : Ending} (h : DropP w b gc gm room L k e w') (hw : RowAt w b gc gm room L) :
    e = .returned (.int .i64 (if (takeR k (thsL L)).isSome then 0 else 4)) ∧ RowP w b gc gm room L (dropR k (thsL L)) w' := by
  have h2 := h.any hw
  obtain ⟨v, L1, _, hr, hth, _, hs, hF⟩ := h2
  refine ⟨?_, L1, hr, hth, hs, fun j hj => .inl (hF j hj)⟩
  rcases h with ⟨hn, rfl, rfl⟩ | ⟨a, g, s, c, hL, htk, rfl, _⟩
  · rw [hn]; rfl
  · rw [htk]; rfl
theorem st_touch (k : List UInt8) (h : StX w0 b c room gx xs l m W) : Calls Try.prog 12 #[pg b, S k] W fun e W' => e = .returned (.bool (takeR k l).isSome) ∧ StX w0 b c room gx xs (touchR k l) m W' := by
  obtain ⟨gc, gm, L, A, cap, h1, rfl, h3, h4, h5, h6, h7⟩ := h
  refine (w_RTouch b gc gm room L k W h1).mono ?_
  rintro e W' ⟨rfl, hp⟩
  exact ⟨rfl, StX.go h1 h3 h4 h5 h6 h7 hp⟩
theorem st_touchR (k : List UInt8) (h : StX w0 b c room gx xs l m W) : Calls Try.prog 13 #[pg c, S k] W fun e W' => e = .returned (.bool (takeR k m).isSome) ∧ StX w0 b c room gx xs l (touchR k m) W' := by
  obtain ⟨gc, gm, L, A, cap, h1, rfl, h3, h4, h5, h6, h7⟩ := h
  refine (w_RefTouch k h3).mono ?_
  rintro e W' ⟨rfl, hp⟩
  exact ⟨rfl, StX.ref h1 h3 h4 h5 h6 h7 hp⟩
theorem st_drop (k : List UInt8) (h : StX w0 b c room gx xs l m W) : Calls Try.prog 14 #[pg b, S k] W fun e W' => e = .returned (.int .i64 (if (takeR k l).isSome then 0 else 4)) ∧ StX w0 b c room gx xs (dropR k l) m W' := by
  obtain ⟨gc, gm, L, A, cap, h1, rfl, h3, h4, h5, h6, h7⟩ := h
  refine (w_RDrop b gc gm room L k W h1).mono ?_
  rintro e W' hd
  obtain ⟨rfl, hp⟩ := hd.row h1
  exact ⟨rfl, StX.go h1 h3 h4 h5 h6 h7 hp⟩
theorem st_dropR (k : List UInt8) (h : StX w0 b c room gx xs l m W) : Calls Try.prog 15 #[pg c, S k] W fun e W' => e = .returned (.int .i64 (if (takeR k m).isSome then 0 else 4)) ∧ StX w0 b c room gx xs l (dropR k m) W' := by
  obtain ⟨gc, gm, L, A, cap, h1, rfl, h3, h4, h5, h6, h7⟩ := h
  refine (w_RefDrop k h3).mono ?_
  rintro e W' ⟨rfl, hp⟩
  exact ⟨rfl, StX.ref h1 h3 h4 h5 h6 h7 hp⟩
/-- what put answers -/
def gonePut (room : Nat) (k : List UInt8) (size : Int) (l : List Thg) : List (List UInt8) := if 1 ≤ size ∧ size ≤ (room : Int) then goneR room size.toNat k l else []
def errPut (room : Nat) (size : Int) : Int := if size < 1 then 1 else if (room : Int) < size then 6 else 0
def thsPut (room : Nat) (k : List UInt8) (size : Int) (l : List Thg) : List Thg := if 1 ≤ size ∧ size ≤ (room : Int) then putR room size.toNat k l else l
def PutO (W : World) (room : Nat) (k : List UInt8) (size : Int) (l : List Thg) (e : Ending) (W' : World) : Prop :=
  ∃ A c, e = .returned (.tuple #[.slice A (gonePut room k size l).length c, .int .i64 (errPut room size)]) ∧ OwnL encL W' W.heap.size 9 A c (gonePut room k size l)
theorem st_put (k : List UInt8) (size : Int) (hsz : -9223372036854775808 ≤ size ∧ size ≤ 9223372036854775807) (h : StX w0 b c room gx xs l m W) :
    Calls Try.prog 9 #[pg b, S k, .int .i64 size] W fun e W' => PutO W room k size l e W' ∧ StX w0 b c room gx xs (thsPut room k size l) m W' := by
  have hh := h
  obtain ⟨gc, gm, L, A, cap, h1, rfl, h3, h4, h5, h6, h7⟩ := h
  refine (w_RPut b gc gm room L k size hsz W h1).mono ?_
  rintro e W' (⟨hs, rfl, hb⟩ | ⟨hs, hs2, rfl, hb⟩ | ⟨n, rfl, hs1, hs2, A2, c2, rfl, ho, hp⟩)
  · have e1 : gonePut room k size (thsL L) = [] := if_neg (by omega)
    have e2 : thsPut room k size (thsL L) = thsL L := if_neg (by omega)
    have e3 : errPut room size = 1 := if_pos hs
    unfold PutO
    rw [e1, e2, e3]
    exact ⟨⟨none, 0, rfl, OwnL.nil _ _ _⟩, hh.keep hb⟩
  · have e1 : gonePut room k size (thsL L) = [] := if_neg (by omega)
    have e2 : thsPut room k size (thsL L) = thsL L := if_neg (by omega)
    have e3 : errPut room size = 6 := by rw [errPut, if_neg (by omega), if_pos hs2]
    unfold PutO
    rw [e1, e2, e3]
    exact ⟨⟨none, 0, rfl, OwnL.nil _ _ _⟩, hh.keep hb⟩
  · have e1 : gonePut room k (n : Int) (thsL L) = goneR room n k (thsL L) := by rw [gonePut, if_pos (by omega), Int.toNat_natCast]
    have e2 : thsPut room k (n : Int) (thsL L) = putR room n k (thsL L) := by rw [thsPut, if_pos (by omega), Int.toNat_natCast]
    have e3 : errPut room (n : Int) = 0 := by rw [errPut, if_neg (by omega), if_neg (by omega)]
    unfold PutO
    rw [e1, e2, e3]
    exact ⟨⟨A2, c2, rfl, ho⟩, StX.go h1 h3 h4 h5 h6 h7 hp⟩
theorem st_putR (k : List UInt8) (size : Int) (hsz : -9223372036854775808 ≤ size ∧ size ≤ 9223372036854775807) (h : StX w0 b c room gx xs l m W) :
    Calls Try.prog 10 #[pg c, S k, .int .i64 size] W fun e W' => PutO W room k size m e W' ∧ StX w0 b c room gx xs l (thsPut room k size m) W' ∧ SameBut (fun j => j = c) W W' := by
  have hh := h
  obtain ⟨gc, gm, L, A, cap, h1, rfl, h3, h4, h5, h6, h7⟩ := h
  refine (w_RefPut k size hsz h3).mono ?_
  rintro e W' (⟨hs, rfl, rfl⟩ | ⟨hs, hs2, rfl, rfl⟩ | ⟨n, rfl, hs1, hs2, A2, c2, rfl, ho, hp⟩)
  · have e1 : gonePut room k size m = [] := if_neg (by omega)
    have e2 : thsPut room k size m = m := if_neg (by omega)
    have e3 : errPut room size = 1 := if_pos hs
    unfold PutO
    rw [e1, e2, e3]
    exact ⟨⟨none, 0, rfl, OwnL.nil _ _ _⟩, hh, SameBut.refl _⟩
  · have e1 : gonePut room k size m = [] := if_neg (by omega)
    have e2 : thsPut room k size m = m := if_neg (by omega)
    have e3 : errPut room size = 6 := by rw [errPut, if_neg (by omega), if_pos hs2]
    unfold PutO
    rw [e1, e2, e3]
    exact ⟨⟨none, 0, rfl, OwnL.nil _ _ _⟩, hh, SameBut.refl _⟩
  · have e1 : gonePut room k (n : Int) m = goneR room n k m := by rw [gonePut, if_pos (by omega), Int.toNat_natCast]
    have e2 : thsPut room k (n : Int) m = putR room n k m := by rw [thsPut, if_pos (by omega), Int.toNat_natCast]
    have e3 : errPut room (n : Int) = 0 := by rw [errPut, if_neg (by omega), if_neg (by omega)]
    unfold PutO
    rw [e1, e2, e3]
    have hs := hp.choose_spec.choose_spec.2.2
    exact ⟨⟨A2, c2, rfl, ho⟩, StX.ref h1 h3 h4 h5 h6 h7 hp, hs⟩
/-- the keys and what is used, of both -/
theorem st_keys (h : StX w0 b c room gx xs l l W) :
    (Calls Try.prog 16 #[pg b] W fun e W' => (∃ A c, e = .returned (.slice A (keysR l).length c) ∧ OwnL encL W' W.heap.size 9 A c (keysR l)) ∧ Below W.heap.size W W') ∧
    (∀ W1, Below W.heap.size W W1 → Calls Try.prog 17 #[pg c] W1 fun e W' => (∃ A c, e = .returned (.slice A (keysR l).length c) ∧ OwnL encL W' W1.heap.size 9 A c (keysR l)) ∧ Below W1.heap.size W1 W') ∧
    (∀ W1, Below W.heap.size W W1 → Calls Try.prog 18 #[pg b] W1 fun e W' => e = .returned (.int .i64 (usedR l : Int)) ∧ W' = W1) ∧
    (∀ W1, Below W.heap.size W W1 → Calls Try.prog 19 #[pg c] W1 fun e W' => e = .returned (.int .i64 (usedR l : Int)) ∧ Below W1.heap.size W1 W') ∧ (keysR l).length ≤ 1000000 := by
  obtain ⟨gc, gm, L, A, cap, h1, rfl, h3, h4, h5, h6, h7⟩ := h
  refine ⟨(w_RKeys b gc gm room L W h1).mono ?_, fun W1 hb => w_RefKeys (h3.keep hb), fun W1 hb => w_RUsed b gc gm room L W1 (h1.keep hb), fun W1 hb => w_RefUsed (h3.keep hb), ?_⟩
  · rintro e W' ⟨A, c, h1, h2, h3⟩
    exact ⟨⟨A, c, h1, h2⟩, h3⟩
  · have := h3.len
    simpa [keysR] using this
/-- both rows -/
def StR (w0 : World) (b c room : Nat) (l : List Thg) (W : World) : Prop :=
  ∃ gc gm L A cap, RowAt W b gc gm room L ∧ thsL L = l ∧ RefR W c room A cap l ∧ (∀ j, FRow b gc gm L j → ¬ FRr c A j) ∧ (∀ j, FRow b gc gm L j ∨ FRr c A j → w0.heap.size ≤ j) ∧ Below w0.heap.size w0 W
theorem StR.toX {w0 W W' : World} {b c room gx : Nat} {xs : List Value} {l : List Thg} (h : StR w0 b c room l W) (hb : Below W.heap.size W W') (bx : BoxAt W' gx 39 xs) (hg : W.heap.size ≤ gx) : StX w0 b c room gx xs l l W' := by
  obtain ⟨gc, gm, L, A, cap, h1, h2, h3, h4, h5, h6⟩ := h
  refine ⟨gc, gm, L, A, cap, h1.keep hb, h2, h3.keep hb, h4, fun j hj => ⟨h5 j hj, ?_⟩, bx, h6.trans (hb.mono h6.size)⟩
  rcases hj with hj | hj
  · have := h1.lt hj; omega
  · have := h3.flt hj; omega
theorem StX.toR {w0 W : World} {b c room gx : Nat} {xs : List Value} {l : List Thg} (h : StX w0 b c room gx xs l l W) : StR w0 b c room l W := by
  obtain ⟨gc, gm, L, A, cap, h1, h2, h3, h4, h5, h6, h7⟩ := h
  exact ⟨gc, gm, L, A, cap, h1, h2, h3, h4, fun j hj => (h5 j hj).1, h7⟩
theorem shed_len (room size : Nat) : ∀ (l : List Thg), (shedR room size l).1.length ≤ l.length
  | [] => by simp [shedR]
  | t :: r => by
    unfold shedR
    split
    · simp
    · have := shed_len room size r
      simp only [List.length_cons]
      omega
theorem drop_len (k : List UInt8) (l : List Thg) : (dropR k l).length ≤ l.length := by
  unfold dropR
  cases h : takeR k l with
  | none => exact Nat.le_refl _
  | some p =>
    obtain ⟨t, r⟩ := p
    obtain ⟨a, b, rfl, rfl, _, _⟩ := takeR_some h
    show (a ++ b).length ≤ _
    simp only [List.length_append, List.length_cons]
    omega
theorem gone_len (room : Nat) (k : List UInt8) (size : Int) (l : List Thg) : (gonePut room k size l).length ≤ l.length := by
  unfold gonePut
  split
  · exact Nat.le_trans (shed_len _ _ _) (drop_len k l)
  · simp
theorem StX.few {w0 W : World} {b c room gx : Nat} {xs : List Value} {l m : List Thg} (h : StX w0 b c room gx xs l m W) : m.length ≤ 1000000 ∧ c < W.heap.size := by
  obtain ⟨gc, gm, L, A, cap, h1, h2, h3, _⟩ := h
  exact ⟨h3.len, h3.box.lt⟩
theorem StX.drewX {w0 W : World} {b c room gx : Nat} {xs : List Value} {l m : List Thg} (h : StX w0 b c room gx xs l m W) : StX w0 b c room gx xs l m W.drew := h.keep (Below.refl _ _).drew
end Go.Proofs.Ytbchkaoocobpfaa
