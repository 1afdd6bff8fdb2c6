/- Walks: the reference's rows: made, counted, the keys, copied. -/
import Derived.Test.YtbchkaoocobpfaaSlrG
import Derived.Test.YtbchkaoocobpfaaSpecRow
import Derived.Test.YtbchkaoocobpfaaAppG
import Derived.Test.YtbchkaoocobpfaaChecked
import Derived.Lib.Walk
import Derived.Lib.Hide
import Derived.RegionTactic
import Derived.ChangeAlike
import Derived.Deep.CutBlock
import Derived.Deep.DeepCutAuto
namespace Go.Proofs.Ytbchkaoocobpfaa
open Go.RowKit Go.Larder
set_option linter.unusedVariables false
set_option linter.unusedSimpArgs false
def encG : ElemT Thg := ⟨fun t => [S t.1, .int .i64 (t.2 : Int)], 2, fun _ => rfl, fun _ u hu => by simp at hu; rcases hu with rfl | rfl <;> rfl, by omega⟩
theorem sl_G : SlT Try.prog 69 76 2 24 := SlT.mk' (z := .agg #[.string ByteArray.empty, .int .i64 0]) Try.underlying69 (by kernel_rfl) rfl
theorem sl_GS : SlT Try.prog 30 9 1 16 := SlT.mk' (z := .string ByteArray.empty) Try.underlying30 (by kernel_rfl) rfl
theorem elem_G : Try.prog.elem 69 = 76 := by kernel_rfl
/-- the reference's row -/
structure RefR (w : World) (c room : Nat) (A : Option Addr) (cap : Nat) (l : List Thg) : Prop where
  box : BoxAt w c 71 [.int .i64 (room : Int), .slice A l.length cap]
  rd : ReadL encG w w.heap.size A l
  cap : l.length ≤ cap
  ne : ∀ a, A = some a → a.block ≠ c
  le : usedR l ≤ room
  rm : room ≤ 1000000
  ps : ∀ t ∈ l, 1 ≤ t.2
  lt : ∀ a, A = some a → a.block < w.heap.size
def FRr (c : Nat) (A : Option Addr) (j : Nat) : Prop := j = c ∨ blkOf A = some j
variable {w w' : World} {c room cap : Nat} {A : Option Addr} {l : List Thg}
theorem ReadL.butG {B : Nat → Prop} {N : Nat} (h : ReadL encG w N A l) (hN : N ≤ w.heap.size) (hs : SameBut B w w') (hd : ∀ j, blkOf A = some j → ¬ B j) : ReadL encG w' N A l := by
  intro hn
  obtain ⟨b, off, rfl, hb, hc⟩ := h hn
  refine ⟨b, off, rfl, hb, fun k a ha j u hu => ?_⟩
  have := hc k a ha j u hu
  have hbk := hs.block b (by omega) (hd b rfl)
  have : w'.cell? ⟨b, off + k * encG.size + j, none⟩ = w.cell? ⟨b, off + k * encG.size + j, none⟩ := by
    unfold World.cell?
    simp only [hbk]
  rw [this]
  assumption
theorem RefR.but {B : Nat → Prop} (h : RefR w c room A cap l) (hs : SameBut B w w') (hd : ∀ j, FRr c A j → ¬ B j) : RefR w' c room A cap l :=
  ⟨hs.box h.box (hd c (.inl rfl)), (ReadL.butG h.rd (Nat.le_refl _) hs (fun j hj => hd j (.inr hj))).more hs.size, h.cap, h.ne, h.le, h.rm, h.ps, fun a ha => Nat.lt_of_lt_of_le (h.lt a ha) hs.size⟩
theorem RefR.keep (h : RefR w c room A cap l) (hb : Below w.heap.size w w') : RefR w' c room A cap l :=
  ⟨h.box.keep hb, (h.rd.below hb (Nat.le_refl _)).more hb.size, h.cap, h.ne, h.le, h.rm, h.ps, fun a ha => Nat.lt_of_lt_of_le (h.lt a ha) hb.size⟩
theorem RefR.cells (h : RefR w c room A cap l) {i : Nat} {e : Thg} (hi : l[i]? = some e) : ∃ g off, A = some ⟨g, off, none⟩ ∧ w.cell? ⟨g, off + i * 2, none⟩ = some (S e.1) ∧ w.cell? ⟨g, off + i * 2 + 1, none⟩ = some (.int .i64 (e.2 : Int)) := by
  obtain ⟨g, off, hA, _, hc⟩ := h.rd.at_ hi
  exact ⟨g, off, hA, hc 0 _ rfl, hc 1 _ rfl⟩
theorem lenG {l : List Thg} (h : ∀ t ∈ l, 1 ≤ t.2) : l.length ≤ usedR l := by
  induction l with
  | nil => simp
  | cons t r ih =>
    rw [usedR_cons, List.length_cons]
    have := h t (by simp)
    have := ih fun x hx => h x (by simp [hx])
    omega
theorem RefR.len (h : RefR w c room A cap l) : l.length ≤ 1000000 := by
  have h1 := lenG h.ps
  have h2 := h.le
  have h3 := h.rm
  omega
theorem used_take_le (l : List Thg) (i : Nat) : usedR (l.take i) ≤ usedR l := by
  have : usedR l = usedR (l.take i) + usedR (l.drop i) := by rw [← usedR_append, List.take_append_drop]
  omega
theorem used_step {l : List Thg} {i : Nat} {e : Thg} (h : l[i]? = some e) : usedR (l.take (i + 1)) = usedR (l.take i) + e.2 := by
  rw [List.take_add_one, h, Option.toList_some, usedR_append]; simp [usedR]
theorem w_RefOut (a : Int) (w : World) : Calls Try.prog 30 #[.int .i64 a, .int .i64 1, .int .i64 1000000] w fun e w' => e = .returned (.bool (decide (¬ (1 ≤ a ∧ a ≤ 1000000)))) ∧ w' = w := by
  by_cases h1 : a < 1
  · have hd : decide (¬ (1 ≤ a ∧ a ≤ 1000000)) = true := by simp only [decide_eq_true_eq]; omega
    rw [hd]
    go_enter Try.func30, Try.ntmps30
    go_wp2_with fail
    go_ret
    exact ⟨rfl, rfl⟩
  · by_cases h2 : 1000000 < a
    · have hd : decide (¬ (1 ≤ a ∧ a ≤ 1000000)) = true := by simp only [decide_eq_true_eq]; omega
      rw [hd]
      go_enter Try.func30, Try.ntmps30
      go_wp2_with fail
      go_ret
      exact ⟨rfl, rfl⟩
    · have hd : decide (¬ (1 ≤ a ∧ a ≤ 1000000)) = false := by simp only [decide_eq_false_iff_not, Classical.not_not]; omega
      rw [hd]
      go_enter Try.func30, Try.ntmps30
      go_wp2_with fail
      go_ret
      exact ⟨rfl, rfl⟩
theorem w_RefNew (room : Int) {w : World} (hr : -9223372036854775808 ≤ room ∧ room ≤ 9223372036854775807) : Calls Try.prog 7 #[.int .i64 room] w fun e w' =>
    (¬ (1 ≤ room ∧ room ≤ 1000000) ∧ e = .returned (.tuple #[.pointer none, .int .i64 1]) ∧ Below w.heap.size w w') ∨
    (∃ n : Nat, room = n ∧ 1 ≤ n ∧ ∃ c, e = .returned (.tuple #[.pointer (some ⟨c, 0, none⟩), .int .i64 0]) ∧ RefR w' c n none 0 [] ∧ w.heap.size ≤ c ∧ Below w.heap.size w w') := by
  have ho := fun W => w_RefOut room W
  by_cases hin : 1 ≤ room ∧ room ≤ 1000000
  · obtain ⟨n, rfl⟩ : ∃ n : Nat, room = n := ⟨room.toNat, by omega⟩
    have hd : decide (¬ ((1 : Int) ≤ n ∧ (n : Int) ≤ 1000000)) = false := by simp; omega
    rw [hd] at ho
    go_enter Try.func7, Try.ntmps7
    go_wp2_with (go_at_call 30; refine (ho _).mono ?_; rintro e w1 ⟨rfl, rfl⟩)
    go_ret2
    have bx := BoxAt.new w1 [.int .i64 (n : Int), .slice none 0 0] 71
    refine .inr ⟨n, rfl, by omega, _, rfl, ⟨bx, ReadL.nil, by simp, by simp, by simp [usedR], by omega, by simp, by simp⟩, Nat.le_refl _, (Below.refl _ _).alloc (Nat.le_refl _) _⟩
  · have hd : decide (¬ (1 ≤ room ∧ room ≤ 1000000)) = true := by simp only [decide_eq_true_eq]; exact hin
    rw [hd] at ho
    have Hin := Lib.hid hin
    clear hin hd
    go_enter Try.func7, Try.ntmps7
    go_wp2_with (go_at_call 30; refine (ho _).mono ?_; rintro e w1 ⟨rfl, rfl⟩)
    go_ret2
    exact .inl ⟨Hin.out, rfl, Below.refl _ _⟩
set_option maxHeartbeats 4000000 in
set_option maxRecDepth 100000 in
theorem w_RefUsed (h : RefR w c room A cap l) :
    Calls Try.prog 19 #[.pointer (some ⟨c, 0, none⟩)] w fun e w' => e = .returned (.int .i64 (usedR l : Int)) ∧ Below w.heap.size w w' := by
  have c1 := h.box.cell (j := 1) rfl
  have hl := h.len
  have hle := h.le
  have hrm := h.rm
  go_enter Try.func19, Try.ntmps19
  go_wp2_with fail
  go_loopw [3, 11] (fun n' i' wr => ∃ (i u : Nat), i' = .int .i64 i ∧ n' = .int .i64 u ∧ i ≤ l.length ∧ Hid (u = usedR (l.take i)) ∧ Below w.heap.size w wr) (fun _ i' _ => l.length - (intOf i').toNat)
  case atStart => exact ⟨0, 0, rfl, rfl, by omega, Lib.hid (by simp [usedR]), Below.refl _ _⟩
  case round =>
    obtain ⟨i, u, rfl, rfl, hi, hu, hbel⟩ := hrel
    by_cases hlt : i < l.length
    · obtain ⟨e, hei, hd⟩ := drop_step hlt
      obtain ⟨g, off, hA, q0, q1⟩ := (h.keep hbel).cells hei
      have hst : u + e.2 = usedR (l.take (i + 1)) := by rw [used_step hei, hu.out]
      have hb2 := used_take_le l (i + 1)
      rw [← hst] at hb2
      have Hst := Lib.hid hst
      subst hA
      obtain ⟨k, s⟩ := e
      simp only at q0 q1 hb2
      clear hei hd hst
      go_wp2_with fail
      go_roundw
      case rel => exact ⟨i + 1, u + s, by go_num, by go_num, by omega, Hst, hbel.alloc hbel.size _⟩
      case measure => simp [intOf]; omega
    · have hall : u = usedR l := by rw [hu.out, List.take_of_length_le (by omega)]
      have Hall := Lib.hid hall
      clear hall
      go_wp2_with fail
      go_ret
      exact ⟨by rw [← Hall.out]; rfl, hbel⟩
set_option maxHeartbeats 4000000 in
set_option maxRecDepth 100000 in
theorem w_RefKeys (h : RefR w c room A cap l) :
    Calls Try.prog 17 #[.pointer (some ⟨c, 0, none⟩)] w fun e w' => (∃ A2 c2, e = .returned (.slice A2 (keysR l).length c2) ∧ OwnL encL w' w.heap.size 9 A2 c2 (keysR l)) ∧ Below w.heap.size w w' := by
  have c1 := h.box.cell (j := 1) rfl
  have hl := h.len
  go_enter Try.func17, Try.ntmps17
  go_wp2_with fail
  go_loopw [3, 11] (fun o' i' wr => ∃ (i : Nat) (out : List (List UInt8)) (A2 : Option Addr) (c2 : Nat), i' = .int .i64 i ∧ o' = .slice A2 out.length c2 ∧ i ≤ l.length ∧ out.length ≤ i ∧ Hid (out = keysR (l.take i)) ∧ OwnL encL wr w.heap.size 9 A2 c2 out ∧ Below w.heap.size w wr) (fun _ i' _ => l.length - (intOf i').toNat)
  case atStart => exact ⟨0, [], none, 0, rfl, rfl, by omega, by simp, Lib.hid rfl, OwnL.nil _ _ _, Below.refl _ _⟩
  case round =>
    obtain ⟨i, out, A2, c2, rfl, rfl, hi, hol, hu, hown, hbel⟩ := hrel
    by_cases hlt : i < l.length
    · obtain ⟨e, hei, hd⟩ := drop_step hlt
      obtain ⟨g, off, hA, q0, q1⟩ := (h.keep hbel).cells hei
      have hst : out ++ [e.1] = keysR (l.take (i + 1)) := by rw [List.take_add_one, hei, hu.out]; simp [keysR]
      have Hst := Lib.hid hst
      subst hA
      obtain ⟨k, s⟩ := e
      simp only at q0 q1
      clear hei hd hst
      have ho2 := OwnL.alc hown (.cells #[S k, .int .i64 (s : Int)] 76)
      have hbl2 := hbel.alloc hbel.size (.cells #[S k, .int .i64 (s : Int)] 76)
      go_upto_region 5 with fail
      have bx := BoxAt.new wr [S k, .int .i64 (s : Int)] 76
      have r0 := bx.cell (j := 0) rfl
      clear bx
      generalize wr.alloc (.cells #[S k, .int .i64 (s : Int)] 76) = wa at *
      have hbz := hbl2.size
      go_wp2_with (at_builtin; refine wpList_app encL sl_GS [k] rfl _ _ rfl rfl ho2 #[S k] rfl 0 rfl rfl (by omega) (by simp only [maxLen]; omega) hbz ?_; intro g' c' w1 hown1 hg1 hb1 hbg)
      go_roundw
      case rel => exact ⟨i + 1, out ++ [k], some ⟨g', 0, none⟩, c', by go_num, by simp, by omega, by simp; omega, Hst, hown1, hbl2.trans hb1⟩
      case measure => simp [intOf]; omega
    · have hall : out = keysR l := by rw [hu.out, List.take_of_length_le (by omega)]
      have Hall := Lib.hid hall
      clear hall
      go_wp2_with fail
      go_ret
      refine ⟨⟨A2, c2, by rw [← Hall.out]; rfl, by rw [← Hall.out]; exact hown⟩, hbel⟩
theorem w_RefCopy (l : List Thg) (hl : l.length ≤ 2000000) (A : Option Addr) (c : Nat) (w : World) (hr : ReadL encG w w.heap.size A l) :
    Calls Try.prog 35 #[.slice A l.length c] w fun e w' => (∃ A2 c2, e = .returned (.slice A2 l.length c2) ∧ OwnL encG w' w.heap.size 76 A2 c2 l) ∧ Below w.heap.size w w' := by
  have hn : OwnL encG w w.heap.size 76 none 0 ([] : List Thg) := OwnL.nil _ _ _
  go_enter Try.func35, Try.ntmps35
  go_wp2_with (at_builtin
               refine wpList_app_any encG sl_G l rfl _ _ rfl rfl hn rfl hr (by simp; omega) (by simp only [maxLen, List.length_nil]; omega) (Nat.le_refl _) ?_
               intro A2 c2 w3 hown3 hb3)
  go_ret
  exact ⟨⟨A2, c2, by simp, by simpa using hown3⟩, hb3⟩
end Go.Proofs.Ytbchkaoocobpfaa
