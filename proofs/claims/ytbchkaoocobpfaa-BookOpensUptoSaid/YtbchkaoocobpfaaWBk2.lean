/- Walks: books: a value set, deleted, asked for; the image. -/
import Derived.Test.YtbchkaoocobpfaaWBk1
import Derived.Maps.OwnSet
namespace Go.Proofs.Ytbchkaoocobpfaa
open Go.RowKit Go.Larder
set_option linter.unusedVariables false
set_option linter.unusedSimpArgs false
variable {w w' : World} {b gm : Nat} {p v : Value} {m : Kv} {n : Nat} {img : List UInt8}
theorem valS_len (m : Kv) : (valS m).length = m.length := by simp [valS]
theorem lk_some (h : MapAt w gm (valS m)) {k x : List UInt8} (hx : getM m k = some x) (ok : Bool) : (Instr.lookup 82 (.map (some gm)) (S k) ok).run Try.prog w = .ok (if ok then .tuple #[S x, .bool true] else S x) w :=
  run_lookup_S (i := 0) Try.underlying82 Try.underlying9 h k ok (by unfold valS; rw [getM_map S m k, hx]; rfl)
theorem lk_none (h : MapAt w gm (valS m)) {k : List UInt8} (hx : getM m k = none) (ok : Bool) : (Instr.lookup 82 (.map (some gm)) (S k) ok).run Try.prog w = .ok (if ok then .tuple #[S [], .bool false] else S []) w :=
  run_lookup_none Try.underlying82 Try.underlying9 h k ok (lookT w) (by unfold valS; rw [getM_map S m k, hx]; rfl)
theorem lk_len (h : MapAt w gm (valS m)) (ty : TypeId) : (Builtin.len_ #[82] ty #[.map (some gm)]).run Try.prog w = .ok (.int .i64 (m.length : Int)) w := by
  have := Go.Larder.run_len_map (P := Try.prog) Try.underlying82 h ty
  rw [valS_len] at this
  exact this
/-- one more record, behind another change of the map -/
theorem BkAfter.step {w1 : World} {m1 : Kv} {n1 : Nat} {img1 : List UInt8} (hs : SameBut (FB b gm v) w w1) (h2 : BkAfter w1 b gm v m1 n1 img1 w') : BkAfter w b gm v m1 n1 img1 w' := by
  obtain ⟨p2, v2, hb, hn, hs2⟩ := h2
  exact ⟨p2, v2, hb, fun j hj => (hn j hj).imp id (fun h0 => Nat.le_trans hs.size h0), hs.trans hs2 (fun _ _ h => h)⟩
theorem BookAt.putM (h : BookAt w b gm p v m n img) {m' : Kv} (hm : MapAt w' gm (valS m')) (hs : SameBut (fun j => j = gm) w w') : BookAt w' b gm p v m' n img :=
  ⟨h.bld.but hs (fun h0 => h.ne h0.symm) (fun j hj h0 => h.neRow (by rw [hj, h0])), hm⟩
set_option maxHeartbeats 1000000 in
theorem w_BSet_ok (k x : List UInt8) (he : setE m k x = 0) (hn : n ≤ 100000000) (hi : img.length ≤ 1000000000000) (h : BookAt w b gm p v m n img) :
    Calls Try.prog 24 #[.pointer (some ⟨b, 0, none⟩), S k, S x] w fun e w' => e = .returned (.int .i64 0) ∧ BkAfter w b gm v (putM m k x) (n + 1) (img ++ frameL n (recE (true, k, x))) w' := by
  have h1 : ¬ (k = [] ∨ 50 < k.length) := by intro h0; simp [setE, h0] at he
  have h2 : ¬ 900 < x.length := by intro h0; simp [setE, h1, h0] at he
  have h3 : ¬ (getM m k = none ∧ m.length = 100) := by intro h0; simp [setE, h1, h2, h0] at he
  have hk0 : k ≠ [] := fun h0 => h1 (.inl h0)
  have hk1 : k.length ≤ 50 := by omega
  have hk2 : 0 < k.length := List.length_pos_iff.2 hk0
  have hx1 : x.length ≤ 900 := by omega
  have hkE : k.isEmpty = false := by cases k with | nil => exact absurd rfl hk0 | cons a l => rfl
  have hkI : ¬ (50 : Int) < (k.length : Int) := by omega
  have hxI : ¬ (900 : Int) < (x.length : Int) := by omega
  have c0 := h.bld.box.cell (j := 0) rfl
  have hrec := fun W => w_record 1 (by omega) k x hk1 hx1 W
  have hlen := lk_len h.map
  have hre : ([UInt8.ofNat 1, UInt8.ofNat k.length] ++ k ++ x) = recE (true, k, x) := rfl
  rw [hre] at hrec
  have hrl : (recE (true, k, x)).length ≤ 1000 := by simp [recE]; omega
  obtain ⟨r, hr⟩ : ∃ r, recE (true, k, x) = r := ⟨_, rfl⟩
  rw [hr] at hrec hrl ⊢
  clear h1 h2 he hre hr
  have Hk0 := Lib.hid hk0
  clear hk0
  cases hg : getM m k with
  | some y =>
    have hlk := lk_some h.map hg true
    clear hg h3
    go_enter Try.func24, Try.ntmps24
    go_wp2_with (at_mapUpdate; refine wpList_mapPut rfl _ _ _ rfl Try.underlying82 Try.underlying9 rfl h.map k rfl (S x) rfl ?_)
    intro w1 hm1 hs1
    have h1 : BookAt w1 b gm p v (Go.Larder.putM m k x) n img := h.putM (by unfold valS at hm1 ⊢; rw [putM_map S]; exact hm1) hs1
    have hs1' : SameBut (FB b gm v) w w1 := hs1.mono fun j _ hj => .inr (.inl hj)
    clear hm1 hs1 hlk hlen
    go_wp2_with fail
    refine Calls.mono (hrec _) ?_
    rintro e w2 ⟨rfl, hb2⟩
    have h2 := h1.keep hb2
    go_wp2_with fail
    refine Calls.mono (w_add b gm p v _ n img r hn hi hrl w2 h2) ?_
    rintro e w3 ⟨rfl, h3⟩
    have hfin := BkAfter.step (hs1'.keep hb2) h3
    clear h3 h2 h1
    go_wp2_with fail
    go_ret
    exact ⟨rfl, hfin⟩
  | none =>
    have hml : m.length ≠ 100 := fun h0 => h3 ⟨hg, h0⟩
    have hmI : ((m.length : Int) == 100) = false := by simp; omega
    have hlk := lk_none h.map hg true
    clear hg h3 hml
    go_enter Try.func24, Try.ntmps24
    go_wp2_with (at_mapUpdate; refine wpList_mapPut rfl _ _ _ rfl Try.underlying82 Try.underlying9 rfl h.map k rfl (S x) rfl ?_)
    intro w1 hm1 hs1
    have h1 : BookAt w1 b gm p v (Go.Larder.putM m k x) n img := h.putM (by unfold valS at hm1 ⊢; rw [putM_map S]; exact hm1) hs1
    have hs1' : SameBut (FB b gm v) w w1 := hs1.mono fun j _ hj => .inr (.inl hj)
    clear hm1 hs1 hlk hlen
    go_wp2_with fail
    refine Calls.mono (hrec _) ?_
    rintro e w2 ⟨rfl, hb2⟩
    have h2 := h1.keep hb2
    go_wp2_with fail
    refine Calls.mono (w_add b gm p v _ n img r hn hi hrl w2 h2) ?_
    rintro e w3 ⟨rfl, h3⟩
    have hfin := BkAfter.step (hs1'.keep hb2) h3
    clear h3 h2 h1
    go_wp2_with fail
    go_ret
    exact ⟨rfl, hfin⟩
theorem keyOrNil (k : List UInt8) : k = [] ∨ (0 < k.length ∧ k.isEmpty = false ∧ k ≠ []) := by
  cases k with
  | nil => exact .inl rfl
  | cons a l => exact .inr ⟨by simp, rfl, by simp⟩
set_option maxHeartbeats 1000000 in
theorem w_BSet_no (k x : List UInt8) (hk : k.length ≤ 4000000) (hx : x.length ≤ 4000000) (he : setE m k x ≠ 0) (h : BookAt w b gm p v m n img) :
    Calls Try.prog 24 #[.pointer (some ⟨b, 0, none⟩), S k, S x] w fun e w' => e = .returned (.int .i64 (setE m k x)) ∧ w = w' := by
  have c0 := h.bld.box.cell (j := 0) rfl
  have hlen := lk_len h.map
  obtain ⟨y, is, hlk, hyn⟩ : ∃ y is, (Instr.lookup 82 (.map (some gm)) (S k) true).run Try.prog w = .ok (.tuple #[S y, .bool is]) w ∧ (is = false ↔ getM m k = none) := by
    cases hg : getM m k with
    | some y => exact ⟨y, true, lk_some h.map hg true, by simp⟩
    | none => exact ⟨[], false, lk_none h.map hg true, by simp⟩
  have Hyn := Lib.hid hyn
  clear hyn
  rcases keyOrNil k with rfl | ⟨hk1, hk2, hk3⟩
  · have hr : setE m [] x = 1 := by simp [setE]
    rw [hr]
    clear he hr
    go_enter Try.func24, Try.ntmps24
    go_wp2_with fail
    go_ret
    exact ⟨rfl, rfl⟩
  · by_cases h1 : 50 < k.length
    · have hr : setE m k x = 1 := by simp [setE, h1]
      rw [hr]
      have h1I : (50 : Int) < (k.length : Int) := by omega
      clear he hr hk3
      go_enter Try.func24, Try.ntmps24
      go_wp2_with fail
      go_ret
      exact ⟨rfl, rfl⟩
    · have h1I : ¬ (50 : Int) < (k.length : Int) := by omega
      by_cases h2 : 900 < x.length
      · have hr : setE m k x = 2 := by simp [setE, h1, h2, hk3]
        rw [hr]
        have h2I : (900 : Int) < (x.length : Int) := by omega
        clear he hr hk3
        go_enter Try.func24, Try.ntmps24
        go_wp2_with fail
        go_ret
        exact ⟨rfl, rfl⟩
      · have h3 : getM m k = none ∧ m.length = 100 := Classical.byContradiction fun h3 => he (by simp only [setE]; rw [if_neg (by intro h0; rcases h0 with h0 | h0; exact hk3 h0; exact h1 h0), if_neg h2, if_neg h3])
        have hr : setE m k x = 6 := by simp [setE, h1, h2, hk3, h3]
        rw [hr]
        have h2I : ¬ (900 : Int) < (x.length : Int) := by omega
        obtain rfl : is = false := Hyn.out.2 h3.1
        have hmI : ((m.length : Int) == 100) = true := by simp [h3.2]
        clear he hr hk3 h3
        go_enter Try.func24, Try.ntmps24
        go_wp2_with fail
        go_ret
        exact ⟨rfl, rfl⟩
set_option maxHeartbeats 1000000 in
theorem w_BDel_ok (k y : List UInt8) (hg : getM m k = some y) (hk1 : k.length ≤ 50) (hn : n ≤ 100000000) (hi : img.length ≤ 1000000000000) (h : BookAt w b gm p v m n img) :
    Calls Try.prog 38 #[.pointer (some ⟨b, 0, none⟩), S k] w fun e w' => e = .returned (.int .i64 0) ∧ BkAfter w b gm v (delM m k) (n + 1) (img ++ frameL n (recE (false, k, []))) w' := by
  have c0 := h.bld.box.cell (j := 0) rfl
  have hrec := fun W => w_record 2 (by omega) k [] hk1 (by simp) W
  have hre : ([UInt8.ofNat 2, UInt8.ofNat k.length] ++ k ++ []) = recE (false, k, []) := rfl
  rw [hre] at hrec
  have hrl : (recE (false, k, [])).length ≤ 1000 := by simp [recE]; omega
  obtain ⟨r, hr⟩ : ∃ r, recE (false, k, []) = r := ⟨_, rfl⟩
  rw [hr] at hrec hrl ⊢
  have hlk := lk_some h.map hg true
  clear hg hre hr
  go_enter Try.func38, Try.ntmps38
  go_wp2_with (at_delete; refine wpList_mapDel rfl _ _ rfl Try.underlying82 Try.underlying9 rfl h.map k rfl ?_)
  intro w1 hm1 hs1
  have h1 : BookAt w1 b gm p v (delM m k) n img := h.putM (by unfold valS at hm1 ⊢; rw [delM_map S]; exact hm1) hs1
  have hs1' : SameBut (FB b gm v) w w1 := hs1.mono fun j _ hj => .inr (.inl hj)
  clear hm1 hs1 hlk
  go_wp2_with fail
  refine Calls.mono (hrec _) ?_
  rintro e w2 ⟨rfl, hb2⟩
  have h2 := h1.keep hb2
  go_wp2_with fail
  refine Calls.mono (w_add b gm p v _ n img r hn hi hrl w2 h2) ?_
  rintro e w3 ⟨rfl, h3⟩
  have hfin := BkAfter.step (hs1'.keep hb2) h3
  clear h3 h2 h1
  go_wp2_with fail
  go_ret
  exact ⟨rfl, hfin⟩
theorem w_BDel_no (k : List UInt8) (hg : getM m k = none) (h : BookAt w b gm p v m n img) :
    Calls Try.prog 38 #[.pointer (some ⟨b, 0, none⟩), S k] w fun e w' => e = .returned (.int .i64 4) ∧ w = w' := by
  have c0 := h.bld.box.cell (j := 0) rfl
  have hlk := lk_none h.map hg true
  clear hg
  go_enter Try.func38, Try.ntmps38
  go_wp2_with fail
  go_ret
  exact ⟨rfl, rfl⟩
theorem w_BGet (k : List UInt8) (h : BookAt w b gm p v m n img) :
    Calls Try.prog 42 #[.pointer (some ⟨b, 0, none⟩), S k] w fun e w' => e = .returned (.tuple #[S ((getM m k).getD []), .bool (getM m k).isSome]) ∧ w = w' := by
  have c0 := h.bld.box.cell (j := 0) rfl
  cases hg : getM m k with
  | some y =>
    have hlk := lk_some h.map hg true
    clear hg
    go_enter Try.func42, Try.ntmps42
    go_wp2_with fail
    go_ret2
    exact ⟨rfl, rfl⟩
  | none =>
    have hlk := lk_none h.map hg true
    clear hg
    go_enter Try.func42, Try.ntmps42
    go_wp2_with fail
    go_ret2
    exact ⟨rfl, rfl⟩
theorem w_BImage (h : BookAt w b gm p v m n img) :
    Calls Try.prog 22 #[.pointer (some ⟨b, 0, none⟩)] w fun e w' => e = .returned (S img) ∧ BookAt w' b gm p v m n img ∧ SameBut (FB b gm v) w w' := by
  go_enter Try.func22, Try.ntmps22
  go_wp2_with fail
  refine Calls.mono (w_StringB b _ _ p v img w h.bld) ?_
  rintro e w1 ⟨rfl, hb1, hs1⟩
  have hm1 : MapAt w1 gm (valS m) := h.map.but hs1 h.neRow
  have hfin : BookAt w1 b gm p v m n img ∧ SameBut (FB b gm v) w w1 := ⟨⟨hb1, hm1⟩, hs1.mono fun j _ hj => .inr (.inr hj)⟩
  clear hb1 hs1 hm1
  go_wp2_with fail
  go_ret
  exact ⟨rfl, hfin⟩
end Go.Proofs.Ytbchkaoocobpfaa
