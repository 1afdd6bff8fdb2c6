/- Walks: the reference's books: a value asked for; the keys. -/
import Derived.Test.YtbchkaoocobpfaaSpecBk2
import Derived.Test.YtbchkaoocobpfaaWSrt
import Derived.Test.YtbchkaoocobpfaaWRef0
import Derived.Test.YtbchkaoocobpfaaAppG
import Derived.StillTailTactics
namespace Go.Proofs.Ytbchkaoocobpfaa
open Go.RowKit Go.Larder
set_option linter.unusedVariables false
set_option linter.unusedSimpArgs false
def encT : ElemT Ent := ⟨fun e => [S (if e.1 then [83] else [68]), S e.2.1, S e.2.2], 3, fun _ => rfl, fun _ u hu => by simp at hu; rcases hu with rfl | rfl | rfl <;> rfl, by omega⟩
theorem sl_T : SlT Try.prog 52 91 3 48 := SlT.mk' (z := .agg #[.string ByteArray.empty, .string ByteArray.empty, .string ByteArray.empty]) Try.underlying52 (by kernel_rfl) rfl
/-- the reference's book -/
structure RefB (w : World) (c : Nat) (A : Option Addr) (cap : Nat) (L : List Ent) : Prop where
  box : BoxAt w c 54 [.slice A L.length cap]
  own : OwnL encT w 0 91 A cap L
variable {w w' : World} {c cap : Nat} {A : Option Addr} {L : List Ent}
/-- its blocks -/
def FR (c : Nat) (A : Option Addr) (j : Nat) : Prop := j = c ∨ blkOf A = some j
theorem RefB.apart (h : RefB w c A cap L) : ∀ a, A = some a → a.block ≠ c := BoxAt.apart h.own h.box (by decide)
theorem RefB.flt (h : RefB w c A cap L) {j : Nat} (hj : FR c A j) : j < w.heap.size := by
  rcases hj with rfl | hj
  · exact h.box.lt
  · cases A with
    | none => simp [blkOf] at hj
    | some a => simp [blkOf] at hj; subst hj; exact (h.own.lt a rfl).2
theorem RefB.but {B : Nat → Prop} (h : RefB w c A cap L) (hs : SameBut B w w') (hd : ∀ j, FR c A j → ¬ B j) : RefB w' c A cap L :=
  ⟨hs.box h.box (hd c (.inl rfl)), hs.own h.own fun a ha => hd _ (.inr (by rw [ha]; rfl))⟩
theorem RefB.keep (h : RefB w c A cap L) (hb : Below w.heap.size w w') : RefB w' c A cap L := ⟨h.box.keep hb, h.own.below hb (Nat.le_refl _)⟩
theorem RefB.cells (h : RefB w c A cap L) {i : Nat} {e : Ent} (hi : L[i]? = some e) : ∃ g off, A = some ⟨g, off, none⟩ ∧ w.cell? ⟨g, off + i * 3, none⟩ = some (S (if e.1 then [83] else [68])) ∧ w.cell? ⟨g, off + i * 3 + 1, none⟩ = some (S e.2.1) ∧ w.cell? ⟨g, off + i * 3 + 2, none⟩ = some (S e.2.2) := by
  obtain ⟨g, off, hA, _, hc⟩ := h.own.read.at_ hi
  exact ⟨g, off, hA, hc 0 _ rfl, hc 1 _ rfl, hc 2 _ rfl⟩
/-- the last that was done -/
def lastV (k : List UInt8) (a : List UInt8 × Bool) (e : Ent) : List UInt8 × Bool := if e.2.1 = k then (e.2.2, e.1) else a
theorem lastV_eq (k : List UInt8) : ∀ (L : List Ent) (a : List UInt8 × Bool) (o : Option (List UInt8)), (∀ e ∈ L, OkEnt e) → a = (o.getD [], o.isSome) → L.foldl (lastV k) a = ((L.foldl (stG k) o).getD [], (L.foldl (stG k) o).isSome)
  | [], a, o, _, h => h
  | e :: L, a, o, ho, h => by
    rw [List.foldl_cons, List.foldl_cons]
    refine lastV_eq k L _ _ (fun x hx => ho x (List.mem_cons_of_mem _ hx)) ?_
    unfold lastV stG
    by_cases hk : e.2.1 = k
    · rw [if_pos hk, if_pos hk]
      cases he : e.1 with
      | true => simp
      | false => simp [(ho e (by simp)).d he]
    · rw [if_neg hk, if_neg hk]; exact h
theorem lastV_get {L : List Ent} (ho : ∀ e ∈ L, OkEnt e) (k : List UInt8) : L.foldl (lastV k) ([], false) = ((getL L k).getD [], (getL L k).isSome) := lastV_eq k L _ none ho rfl
theorem take_foldl {α β : Type} (f : β → α → β) (a : β) (l : List α) {i : Nat} {x : α} (h : l[i]? = some x) : (l.take (i + 1)).foldl f a = f ((l.take i).foldl f a) x := by
  rw [List.take_add_one, h, Option.toList_some, List.foldl_append]
  rfl
theorem beq_ne' {a b : List UInt8} (h : a ≠ b) : (a == b) = false := by simpa using h
set_option maxHeartbeats 4000000 in
set_option maxRecDepth 100000 in
theorem w_RGet (k : List UInt8) (hl : L.length ≤ 4000000) (ho : ∀ e ∈ L, OkEnt e) (h : RefB w c A cap L) :
    Calls Try.prog 43 #[.pointer (some ⟨c, 0, none⟩), S k] w fun e w' => e = .returned (.tuple #[S ((getL L k).getD []), .bool (getL L k).isSome]) ∧ Below w.heap.size w w' := by
  have c0 := h.box.cell (j := 0) rfl
  have hG := lastV_get ho k
  obtain ⟨G, hG2⟩ : ∃ G, ((getL L k).getD [], (getL L k).isSome) = G := ⟨_, rfl⟩
  rw [hG2] at hG
  have e1 : (getL L k).getD [] = G.1 := by rw [← hG2]
  have e2 : (getL L k).isSome = G.2 := by rw [← hG2]
  rw [e1, e2]
  have HG := Lib.hid hG
  clear hG hG2 e1 e2
  go_enter Try.func43, Try.ntmps43
  go_wp2_with fail
  go_loopw [6, 7, 9, 15] (fun v' b' _ i' wr => ∃ (i : Nat) (vv : List UInt8) (bb : Bool), i' = .int .i64 i ∧ v' = S vv ∧ b' = .bool bb ∧ i ≤ L.length ∧ Hid ((vv, bb) = (L.take i).foldl (lastV k) ([], false)) ∧ Below w.heap.size w wr) (fun _ _ _ i' _ => L.length - (intOf i').toNat)
  case atStart => exact ⟨0, [], false, rfl, rfl, rfl, by omega, Lib.hid rfl, Below.refl _ _⟩
  case round =>
    obtain ⟨i, vv, bb, rfl, rfl, rfl, hi, heq, hbel⟩ := hrel
    obtain ⟨wo, hwo⟩ : ∃ wo, wo = wr := ⟨_, rfl⟩
    subst hwo
    by_cases hlt : i < L.length
    · obtain ⟨e, hei, hd⟩ := drop_step hlt
      obtain ⟨g, off, hA, q0, q1, q2⟩ := (h.keep hbel).cells hei
      have Hst := Lib.hid (show (L.take (i + 1)).foldl (lastV k) ([], false) = lastV k (vv, bb) e from by rw [take_foldl _ _ _ hei, heq.out])
      subst hA
      obtain ⟨bt, kk, xx⟩ := e
      simp only at q0 q1 q2
      clear hei hd
      by_cases hk : kk = k
      · subst hk
        have hkE : (kk == kk) = true := by simp
        have Hs2 := Lib.hid (show (xx, bt) = (L.take (i + 1)).foldl (lastV kk) ([], false) from by rw [Hst.out]; simp [lastV])
        cases bt
        · simp only [Bool.false_eq_true, if_false] at q0
          go_upto_region 6 with fail
          have bx := BoxAt.new wo [S [68], S kk, S xx] 91
          have r0 := bx.cell (j := 0) rfl
          have r1 := bx.cell (j := 1) rfl
          have r2 := bx.cell (j := 2) rfl
          have hbw := hbel.alloc hbel.size (.cells #[S [68], S kk, S xx] 91)
          clear bx
          generalize wo.alloc (.cells #[S [68], S kk, S xx] 91) = wa at *
          go_still (by kernel_rfl)
          go_wp2_with fail
          go_roundw
          case rel => exact ⟨i + 1, xx, false, by go_num, rfl, rfl, by omega, Hs2, hbw.drew⟩
          case measure => simp [intOf]; omega
        · simp only [if_true] at q0
          go_upto_region 6 with fail
          have bx := BoxAt.new wo [S [83], S kk, S xx] 91
          have r0 := bx.cell (j := 0) rfl
          have r1 := bx.cell (j := 1) rfl
          have r2 := bx.cell (j := 2) rfl
          have hbw := hbel.alloc hbel.size (.cells #[S [83], S kk, S xx] 91)
          clear bx
          generalize wo.alloc (.cells #[S [83], S kk, S xx] 91) = wa at *
          go_still (by kernel_rfl)
          go_wp2_with fail
          go_roundw
          case rel => exact ⟨i + 1, xx, true, by go_num, rfl, rfl, by omega, Hs2, hbw.drew⟩
          case measure => simp [intOf]; omega
      · have hkE := beq_ne' hk
        have Hs2 := Lib.hid (show (vv, bb) = (L.take (i + 1)).foldl (lastV k) ([], false) from by rw [Hst.out]; simp [lastV, hk])
        clear hk
        go_wp2_with fail
        go_roundw
        case rel => exact ⟨i + 1, vv, bb, by go_num, rfl, rfl, by omega, Hs2, hbel.alloc hbel.size _⟩
        case measure => simp [intOf]; omega
    · have Hall := Lib.hid (show (vv, bb) = G from by rw [heq.out, List.take_of_length_le (by omega), HG.out])
      go_wp2_with fail
      go_ret2
      have h1 := congrArg Prod.fst Hall.out
      have h2 := congrArg Prod.snd Hall.out
      simp only at h1 h2
      exact ⟨by rw [h1, h2]; rfl, hbel⟩
theorem w_HasB (x : List UInt8) (l : List (List UInt8)) (hl : l.length ≤ 140737488351232) (A : Option Addr) (c B : Nat) (w : World) (hr : ReadL encL w B A l) :
    Calls Try.prog 52 #[.slice A l.length c, S x] w (fun e w' => e = .returned (.bool (l.any fun y => x == y)) ∧ w = w') := by
  go_enter Try.func52, Try.ntmps52
  go_wp2_with fail
  go_loop [9] (fun i' => ∃ k : Nat, i' = .int .i64 k ∧ k ≤ l.length ∧ ((l.drop k).any fun y => x == y) = (l.any fun y => x == y)) (fun i' => l.length - (intOf i').toNat)
  case atStart => exact ⟨0, rfl, by omega, rfl⟩
  case round =>
    obtain ⟨k, rfl, hk, heq⟩ := hrel
    by_cases hlt : k < l.length
    · obtain ⟨y, hy, hs⟩ := drop_step hlt
      obtain ⟨g, off, rfl, hgb, hc0⟩ := hr.at_S hy
      rw [hs, List.any_cons] at heq
      clear hs hy
      cases hw : (x == y)
      · rw [hw] at heq
        have Heq := Lib.hid heq; clear heq
        go_wp2_with fail
        go_round
        case rel => exact ⟨k + 1, by go_num, by omega, by rw [← Heq.out]; simp⟩
        case measure => simp [intOf]; omega
      · rw [hw] at heq
        have Heq := Lib.hid heq; clear heq
        go_wp2_with fail
        go_ret
        exact ⟨by rw [← Heq.out]; rfl, rfl⟩
    · rw [drop_end hlt] at heq
      have Heq := Lib.hid heq; clear heq
      go_wp2_with fail
      go_ret
      exact ⟨by rw [← Heq.out]; rfl, rfl⟩
theorem any_contains (x : List UInt8) (l : List (List UInt8)) : (l.any fun y => x == y) = l.contains x := by
  rw [Bool.eq_iff_iff]
  simp
def KeysR (w : World) (ks : List (List UInt8)) (e : Ending) (w' : World) : Prop := (∃ A c, e = .returned (.slice A ks.length c) ∧ OwnL encL w' w.heap.size 9 A c ks) ∧ Below w.heap.size w w'
set_option maxHeartbeats 4000000 in
set_option maxRecDepth 100000 in
theorem w_RKeys (hl : L.length ≤ 4000000) (ho : ∀ e ∈ L, OkEnt e) (hk : (keysU L).length ≤ 100) (h : RefB w c A cap L) :
    Calls Try.prog 26 #[.pointer (some ⟨c, 0, none⟩)] w (KeysR w (sortL (keysU L))) := by
  have c0 := h.box.cell (j := 0) rfl
  obtain ⟨K, hK⟩ : ∃ K, keysU L = K := ⟨_, rfl⟩
  have HK := Lib.hid (show L.foldl (addK L) [] = K from hK)
  rw [hK] at hk ⊢
  clear hK
  go_enter Try.func26, Try.ntmps26
  go_wp2_with fail
  go_loopw [3, 5, 6, 7, 13] (fun o' _ _ _ i' wr => ∃ (i : Nat) (out : List (List UInt8)) (A2 : Option Addr) (c2 : Nat), i' = .int .i64 i ∧ o' = .slice A2 out.length c2 ∧ i ≤ L.length ∧ out.length ≤ i ∧ Hid (out = (L.take i).foldl (addK L) []) ∧ OwnL encL wr w.heap.size 9 A2 c2 out ∧ Below w.heap.size w wr) (fun _ _ _ _ i' _ => L.length - (intOf i').toNat)
  case atStart => exact ⟨0, [], none, 0, rfl, rfl, by omega, by simp, Lib.hid rfl, OwnL.nil _ _ _, Below.refl _ _⟩
  case round =>
    obtain ⟨i, out, A2, c2, rfl, rfl, hi, hol, heq, hown, hbel⟩ := hrel
    obtain ⟨wo, hwo⟩ : ∃ wo, wo = wr := ⟨_, rfl⟩
    subst hwo
    by_cases hlt : i < L.length
    · obtain ⟨e, hei, hd⟩ := drop_step hlt
      obtain ⟨g, off, hA, q0, q1, q2⟩ := (h.keep hbel).cells hei
      have Hst := Lib.hid (show (L.take (i + 1)).foldl (addK L) [] = addK L out e from by rw [take_foldl _ _ _ hei, heq.out])
      subst hA
      obtain ⟨bt, kk, xx⟩ := e
      simp only at q0 q1 q2
      obtain ⟨kd, hkd⟩ : ∃ kd, (if bt = true then ([83] : List UInt8) else [68]) = kd := ⟨_, rfl⟩
      rw [hkd] at q0
      clear hei hd hkd
      go_upto_region 5 with fail
      have bx := BoxAt.new wo [S kd, S kk, S xx] 91
      have hbw := hbel.alloc hbel.size (.cells #[S kd, S kk, S xx] 91)
      have hown2 := hown.alloc (.cells #[S kd, S kk, S xx] 91)
      have hwos := hbel.size
      generalize wo.alloc (.cells #[S kd, S kk, S xx] 91) = wa at *
      generalize wo.heap.size = gx at *
      have r1 := bx.cell (j := 1) rfl
      have hget := w_RGet kk hl ho (h.keep hbw)
      have Hl := Lib.hid hl
      clear q0 q1 q2
      cases hg : getL L kk with
      | none =>
        rw [hg] at hget
        have Hn := Lib.hid (show out = (L.take (i + 1)).foldl (addK L) [] from by rw [Hst.out]; simp [addK, hg])
        clear hg
        go_wp2_with fail
        refine Calls.mono hget ?_
        rintro e w4 ⟨rfl, hb4⟩
        have hown4 := hown2.below hb4 (Nat.le_refl _)
        have hbel4 := hbw.trans (hb4.mono hbw.size)
        go_wp2_with fail
        go_roundw
        case rel => exact ⟨i + 1, out, A2, c2, by go_num, rfl, by omega, by omega, Hn, hown4, hbel4⟩
        case measure => simp [intOf]; omega
      | some y =>
        rw [hg] at hget
        have hasB := fun W (hr : ReadL encL W W.heap.size A2 out) => w_HasB kk out (by omega) A2 c2 W.heap.size W hr
        rw [any_contains] at hasB
        have hst2 : addK L out (bt, kk, xx) = if out.contains kk then out else out ++ [kk] := by
          simp only [addK, hg, Option.isSome_some, Bool.true_and]
          cases out.contains kk <;> rfl
        cases hc : out.contains kk with
        | true =>
          rw [hc] at hasB
          have Hn := Lib.hid (show out = (L.take (i + 1)).foldl (addK L) [] from by rw [Hst.out, hst2, hc]; rfl)
          clear hg hc hst2
          go_wp2_with fail
          refine Calls.mono hget ?_
          rintro e w4 ⟨rfl, hb4⟩
          have hown4 := hown2.below hb4 (Nat.le_refl _)
          have hbel4 := hbw.trans (hb4.mono hbw.size)
          have r4 := (bx.keep hb4).cell (j := 1) rfl
          have hh := hasB w4 hown4.read
          go_wp2_with fail
          refine Calls.mono hh ?_
          rintro e w5 ⟨rfl, rfl⟩
          go_wp2_with fail
          go_roundw
          case rel => exact ⟨i + 1, out, A2, c2, by go_num, rfl, by omega, by omega, Hn, hown4, hbel4⟩
          case measure => simp [intOf]; omega
        | false =>
          rw [hc] at hasB
          have Hn := Lib.hid (show out ++ [kk] = (L.take (i + 1)).foldl (addK L) [] from by rw [Hst.out, hst2, hc]; rfl)
          clear hg hc hst2
          go_wp2_with fail
          refine Calls.mono hget ?_
          rintro e w4 ⟨rfl, hb4⟩
          have hown4 := hown2.below hb4 (Nat.le_refl _)
          have hbel4 := hbw.trans (hb4.mono hbw.size)
          have r4 := (bx.keep hb4).cell (j := 1) rfl
          have hh := hasB w4 hown4.read
          go_wp2_with fail
          refine Calls.mono hh ?_
          rintro e w5 ⟨rfl, rfl⟩
          go_wp2_with (at_builtin
                       refine wpList_app encL sl_strT [kk] rfl _ _ rfl (by rfl) hown4 #[S kk] (by rw [flat_S]; rfl) 0 rfl rfl (by omega) (by simp only [maxLen]; omega) hbel4.size ?_
                       intro g3 c3 w6 hown6 hg6 hb6 hbg6)
          have hbel6 := hbel4.trans hb6
          go_roundw
          case rel => exact ⟨i + 1, out ++ [kk], some ⟨g3, 0, none⟩, c3, by go_num, by simp, by omega, by simp; omega, Hn, hown6, hbel6⟩
          case measure => simp [intOf]; omega
    · obtain rfl : out = K := by rw [heq.out, List.take_of_length_le (by omega), HK.out]
      have hsr := w_sorted out (by omega) A2 c2 wo hown.read
      clear heq
      go_wp2_with fail
      refine Calls.mono hsr ?_
      rintro e w4 ⟨⟨A4, c4, rfl, ho4⟩, hb4⟩
      have hfin : KeysR w (sortL out) (.returned (.slice A4 (sortL out).length c4)) w4 := ⟨⟨A4, c4, rfl, ho4.base_le hbel.size⟩, hbel.trans (hb4.mono hbel.size)⟩
      go_wp2_with fail
      go_ret
      exact hfin
end Go.Proofs.Ytbchkaoocobpfaa
