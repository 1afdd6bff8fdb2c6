/- Walks: unescaped targets. -/
import Derived.Test.YtiaboojdplcaoaaWTgt1
import Derived.Deep.QuietTactic
import Derived.BigQuiet
namespace Go.Proofs.Ytiaboojdplcaoaa
open Go.RowKit Go.Larder
set_option linter.unusedVariables false
set_option linter.unusedSimpArgs false

def encO : ElemT Bool := ⟨fun b => [.bool b], 1, fun _ => rfl, fun _ u hu => by simp at hu; subst hu; rfl, by omega⟩
theorem sl_bool : SlT Try.prog 89 4 1 1 := SlT.mk' (z := .bool false) Try.underlying89 (by kernel_rfl) rfl
set_option maxRecDepth 100000 in
theorem w_chr (n : Nat) (hn : n < 256) (w : World) :
    Calls Try.prog 95 #[.int .i64 n] w fun e w' => e = .returned (S [UInt8.ofNat n]) ∧ Below w.heap.size w w' := by
  have hb : ((UInt8.ofNat n).toNat : Int) = (n : Int) := by rw [UInt8.toNat_ofNat']; omega
  have e1 : IntKind.u8.wrap (n : Int) = (n : Int) := by rw [IntKind.wrap_u8]; omega
  have hlit : ReadL encB (w.alloc (.cells #[.int .u8 (n : Int)] 5)) (w.heap.size + 1) (some ⟨w.heap.size, 0, none⟩) [UInt8.ofNat n] := ReadL.lit (E := encB) w #[.int .u8 (n : Int)] _ [UInt8.ofNat n] (by show [Value.int .u8 (n : Int)] = [Value.int .u8 ((UInt8.ofNat n).toNat : Int)]; rw [hb])
  have hback := run_bytes_str (P := Try.prog) 78 9 Try.underlying78 Try.underlying5 Try.underlying9 hlit 1
  rw [show [UInt8.ofNat n].length = 1 from rfl] at hback
  generalize UInt8.ofNat n = b at *
  go_enter Try.func95, Try.ntmps95
  go_wp2_with fail
  go_ret
  exact ⟨rfl, (Below.refl _ _).alloc (Nat.le_refl _) _⟩

theorem chainW {w W w3 : World} (h1 : Below w.heap.size w W) (h2 : Below W.heap.size W w3) : Below w.heap.size w w3 := h1.trans (h2.mono h1.size)
theorem cat1 (acc : List UInt8) (b : UInt8) (h : acc.length ≤ 1000000) (w : World) : (Op.stringOp .add ⟨acc.toArray⟩ ⟨#[b]⟩).run Try.prog w = .ok (.string ⟨(acc ++ [b]).toArray⟩) w := run_string_add_lists w acc [b] (by omega) (by simp)
theorem chainAW {w W : World} (h1 : Below w.heap.size w W) (o : Obj) : Below w.heap.size w (W.alloc o) := h1.alloc h1.size o
theorem byteOf_eq {a b : UInt8} (ha : 0 ≤ hexv a) (hb : 0 ≤ hexv b) : ∃ n : Nat, n < 256 ∧ 16 * hexv a + hexv b = (n : Int) ∧ Larder.byteOf a b = UInt8.ofNat n := by
  have h1 := hexv_lt a
  have h2 := hexv_lt b
  exact ⟨(16 * hexv a + hexv b).toNat, by omega, by omega, rfl⟩
theorem all2 {a b : UInt8} {t : List UInt8} : [a, b].all (inTab t) = (inTab t a && inTab t b) := by simp

set_option maxHeartbeats 1000000 in
theorem w_Unescape (l : List UInt8) (hl : l.length ≤ 140737488351232) (w : World) :
    Calls Try.prog 23 #[S l] w (StPost w (unE l)) := by
  by_cases hbig : 200 < l.length
  · have hr : unE l = .error 2 := by unfold unE; rw [if_pos hbig]
    rw [hr]
    go_enter Try.func23, Try.ntmps23
    go_wp2_with fail
    go_ret2
    exact ⟨rfl, Below.refl _ _⟩
  · have hbox : BoxB (w.alloc (.cells #[.slice none 0 0] 78)) w.heap.size [] := ⟨none, 0, by rw [cell_of_row _ _ _ _ _ (0, 0) (heap_alloc_new w _)]; rfl, Lib.frozen_of_heap (heap_alloc_new w _) 0, OwnL.nil _ _ _, by simp⟩
    have hec := w_each l (by omega) w.heap.size _ hbox
    cases hu : unGo l [] with
    | none =>
      have hr : unE l = .error 3 := by unfold unE; rw [if_neg hbig, hu]
      rw [hr]
      rw [hu] at hec
      go_enter Try.func23, Try.ntmps23
      go_wp2_with (go_at_call 64; refine hec.mono ?_; rintro e w1 ⟨rfl, hb1⟩)
      go_ret2
      exact ⟨rfl, ((Below.refl _ _).alloc (Nat.le_refl _) _).trans hb1⟩
    | some out =>
      have hr : unE l = .ok out := by unfold unE; rw [if_neg hbig, hu]
      rw [hr]
      rw [hu] at hec
      go_enter Try.func23, Try.ntmps23
      go_wp2_with (go_at_call 64; refine hec.mono ?_; rintro e w1 ⟨⟨rfl, A, c, hc1, hf1, ho1, hb9⟩, hb1⟩
                   have hback := run_bytes_str (P := Try.prog) 78 9 Try.underlying78 Try.underlying5 Try.underlying9 ho1.read c)
      go_ret2
      exact ⟨rfl, ((Below.refl _ _).alloc (Nat.le_refl _) _).trans hb1⟩

def UnPost (w : World) (r : Option (List UInt8)) (e : Ending) (w' : World) : Prop :=
  (match r with
    | none => e = .returned (.tuple #[S [], .slice none 0 0, .bool false])
    | some out => ∃ A n c, e = .returned (.tuple #[S out, .slice A n c, .bool true])) ∧ Below w.heap.size w w'

set_option maxHeartbeats 4000000 in
set_option maxRecDepth 100000 in
theorem w_unescapedR (l : List UInt8) (hl : l.length ≤ 200) (w : World) :
    Calls Try.prog 66 #[S l] w (UnPost w (unGo l [])) := by
  obtain ⟨R, hR⟩ : ∃ R, R = unGo l [] := ⟨_, rfl⟩
  rw [← hR]
  have HR := Lib.hid hR
  clear hR
  go_enter Try.func66, Try.ntmps66
  go_wp2_with fail
  go_loopw [0, 5, 6] (fun s o ws wr => ∃ (rest acc : List UInt8) (bs : List Bool) (A : Option Addr) (c : Nat), s = S rest ∧ o = S acc ∧ ws = .slice A bs.length c ∧ rest.length + acc.length ≤ 200 ∧ bs.length = acc.length ∧ OwnL encO wr w.heap.size 4 A c bs ∧ Below w.heap.size w wr ∧ unGo rest acc = unGo l []) (fun s _ _ _ => lenOf s)
  case atStart => exact ⟨l, [], [], none, 0, rfl, rfl, rfl, by simpa using hl, rfl, OwnL.nil _ _ _, Below.refl _ _, rfl⟩
  case round =>
    obtain ⟨rest, acc, bs, A, c, rfl, rfl, rfl, hlen, hbl, hown, hbel, heq⟩ := hrel
    have hbs := hbel.size
    have hbl1 : bs.length ≤ 200 := by omega
    have Hbl := Lib.hid hbl
    clear hbl
    rcases rest with _ | ⟨x, r⟩
    · rw [unGo_nil] at heq
      have HR2 := Lib.hid (show R = some acc from by rw [HR.out]; exact heq.symm)
      clear heq
      go_wp2_with fail
      go_ret3
      rw [HR2.out]
      exact ⟨⟨A, bs.length, c, rfl⟩, hbel⟩
    · by_cases h37 : x = 37
      · subst h37
        by_cases hsh : r.length < 2
        · rw [unGo_short hsh] at heq
          have HR2 := Lib.hid (show R = none from by rw [HR.out]; exact heq.symm)
          clear heq
          have a1 : ((r.length : Int) + 1) < 3 := by omega
          have a2 : r.length + 1 < 3 := by omega
          go_wp2_with fail
          go_ret3
          rw [HR2.out]
          exact ⟨rfl, hbel⟩
        · rcases r with _ | ⟨a, _ | ⟨b, r⟩⟩
          · simp at hsh
          · simp at hsh
          · simp only [List.length_cons] at hlen
            have hall := all2 (a := a) (b := b) (t := hexTab)
            rw [hexv_tab, hexv_tab] at hall
            have a1 : ¬ ((r.length : Int) + 1 + 1 + 1) < 3 := by omega
            have a2 : ¬ r.length + 1 + 1 + 1 < 3 := by omega
            have a3 : 3 ≤ r.length + 1 + 1 + 1 := by omega
            have n2 : acc.length + 1 ≤ 9223372036854775807 := by omega
            have n3 : acc.length < 9223372036854775807 := by omega
            have hrun : ∀ (b : UInt8) (w : World), (Op.stringOp .add ⟨acc.toArray⟩ ⟨#[b]⟩).run Try.prog w = .ok (.string ⟨(acc ++ [b]).toArray⟩) w := fun b w => cat1 acc b (by omega) w
            by_cases hh : 0 ≤ hexv a ∧ 0 ≤ hexv b
            · have hall2 : [a, b].all (inTab hexTab) = true := by rw [hall]; simp [hh.1, hh.2]
              obtain ⟨n, hn, hnv, hby⟩ := byteOf_eq hh.1 hh.2
              rw [unGo_esc hh.1 hh.2, hby] at heq
              have i1 := hexv_low a hh.1
              have i2 := hexv_low b hh.2
              have l1 := hexv_lt a
              have l2 := hexv_lt b
              have hh1 := hh.1
              have hh2 := hh.2
              have v1 : IntKind.i64.wrap (16 * hexv a) = 16 * hexv a := IntWalk.i64_in _ ⟨by omega, by omega⟩
              have v2 : IntKind.i64.wrap (16 * hexv a + hexv b) = (n : Int) := by rw [hnv]; exact IntWalk.i64_in _ ⟨by omega, by omega⟩
              have hlow : lowL [a, b] = [lowB a, lowB b] := rfl
              have hallw := w_allOf [a, b] hexTab (by simp)
              rw [hall2] at hallw
              have hloww := w_LowerR [a, b] (by simp)
              rw [hlow] at hloww
              have hchr := fun w => w_chr n hn w
              clear hby hnv
              generalize UInt8.ofNat n = bt at heq hchr
              have Heq := Lib.hid heq
              clear heq hall
              have c1 : (⟨#[bt]⟩ : ByteArray).size = 1 := rfl
              go_wp2_with (first
                | (go_at_call 53; refine (hallw _).mono ?_; rintro e w' ⟨rfl, rfl⟩)
                | (go_at_call 15; refine (hloww _).mono ?_; rintro e w' ⟨rfl, rfl⟩))
              go_region_with (go_at_call 54; refine (w_IndexByte hexL _ _).mono ?_; rintro e w' ⟨rfl, rfl⟩)
              all_goals go_wp2_with fail
              all_goals
                go_region_held3 (fun w' => Below w.heap.size w w') ((first | assumption | (refine chainAW ?_ _; first | assumption | (simp_all; done)) | (refine Below.drew (chainAW ?_ _); first | assumption | (simp_all; done)) | go_grown))
                  (first
                    | (go_at_call 95; refine (hchr _).mono ?_; rintro e w7 ⟨rfl, hb7⟩; have hK7 : Below w.heap.size w w7 := chainW (by first | assumption | exact chainAW (by assumption) _ | go_grown) hb7; (try have hown7 : OwnL encO w7 w.heap.size 4 A c bs := OwnL.below (by first | exact hown | exact hown.alloc _ | exact OwnL.alloc (w := wr.drew) hown _ | exact OwnL.alloc (w := wr.drew.drew) hown _) hb7 (Nat.le_refl _)))
                    | (refine step_app_sl (l := bs) encO sl_bool [true] (by rfl) _ _ (by rfl) (by rfl) (by first | exact hown | exact hown.alloc _ | exact OwnL.alloc (w := wr.drew) hown _ | exact OwnL.alloc (w := wr.drew.drew) hown _ | exact hown7 | exact hown7.alloc _) (by rfl) (by first | exact ReadL.lit (E := encO) _ #[.bool true] _ [true] rfl | exact (show ReadL encO (wr.alloc (.cells #[.bool true] 4)).drew.drew (wr.heap.size + 1) _ [true] from ReadL.lit (E := encO) wr #[.bool true] _ [true] rfl).below hb7 (by show wr.heap.size + 1 ≤ (wr.heap.push _).size; simp)) (by simp; omega) (by simp [maxLen]; omega) (by first | (simp; omega) | (have := hK7.size; simp; omega) | (have := hK7.size; omega)) ?_; intro A4 c4 w4 ho4 hb4; have hK4 : Below w.heap.size w w4 := Below.trans (by first | assumption | exact chainAW (by assumption) _ | go_grown) hb4))
              all_goals go_wp2
              all_goals exact ⟨⟨r, acc ++ [bt], bs ++ [true], A4, c4, by first | rfl | (simp; done), by first | rfl | (simp; done), by simp, by simp; omega, by simp [Hbl.out], by first | exact ho4 | exact ho4.below hb7 (Nat.le_refl _), by first | exact hK4 | exact hK7 | go_grown, Heq.out⟩, by simp [lenOf, ba_size]; omega⟩
            · have hall2 : [a, b].all (inTab hexTab) = false := by
                rw [hall]
                rw [Bool.eq_false_iff]
                intro h
                simp at h
                exact hh h
              rw [unGo_bad hh] at heq
              have HR2 := Lib.hid (show R = none from by rw [HR.out]; exact heq.symm)
              have hallw := w_allOf [a, b] hexTab (by simp)
              rw [hall2] at hallw
              clear heq hall
              go_wp2_with (go_at_call 53; refine (hallw _).mono ?_; rintro e w' ⟨rfl, rfl⟩)
              go_ret3
              rw [HR2.out]
              exact ⟨rfl, hbel⟩
      · rw [unGo_plain h37] at heq
        have h37b : ¬ (x.toNat : Int) = 37 := by
          intro h
          exact h37 (UInt8.toNat_inj.1 (by show x.toNat = 37; omega))
        have h37c : ((x.toNat : Int) == 37) = false := by simpa using h37b
        have Heq := Lib.hid heq
        clear heq
        simp only [List.length_cons] at hlen
        have n2 : acc.length + 1 ≤ 9223372036854775807 := by omega
        have n3 : acc.length < 9223372036854775807 := by omega
        have hrun : ∀ (b : UInt8) (w : World), (Op.stringOp .add ⟨acc.toArray⟩ ⟨#[b]⟩).run Try.prog w = .ok (.string ⟨(acc ++ [b]).toArray⟩) w := fun b w => cat1 acc b (by omega) w
        have p1 : (1 : Int) ≤ (r.length : Int) + 1 := by omega
        have p2 : (0 : Int) ≤ (r.length : Int) := by omega
        have p3 : 1 ≤ r.length + 1 := by omega
        go_wp2_with fail
        go_region_held3 (fun _ => True) (trivial)
          ((refine step_app_sl (l := bs) encO sl_bool [false] (by rfl) _ _ (by rfl) (by rfl) (by first | exact hown | exact hown.alloc _) (by rfl) (by first | exact ReadL.lit _ _ _ _ rfl) (by simp; omega) (by simp [maxLen]; omega) (by first | (simp; omega) | (show w.heap.size ≤ (wr.heap.push _).size; simp; omega)) ?_; intro A4 c4 w4 ho4 hb4))
        all_goals go_wp2
        all_goals exact ⟨⟨r, acc ++ [x], bs ++ [false], A4, c4, rfl, rfl, by simp, by simp; omega, by simp [Hbl.out], ho4, Below.trans (by go_grown) hb4, Heq.out⟩, by simp [lenOf, ba_size]⟩

theorem unE_big {l : List UInt8} (h : 200 < l.length) : unE l = .error 2 := by unfold unE; rw [if_pos h]
theorem unE_none {l : List UInt8} (h : ¬ 200 < l.length) (hu : unGo l [] = none) : unE l = .error 3 := by unfold unE; rw [if_neg h, hu]
theorem unE_some {l out : List UInt8} (h : ¬ 200 < l.length) (hu : unGo l [] = some out) : unE l = .ok out := by unfold unE; rw [if_neg h, hu]
theorem w_UnescapeR (l : List UInt8) (hl : l.length ≤ 140737488351232) (w : World) :
    Calls Try.prog 24 #[S l] w (StPost w (unE l)) := by
  by_cases hbig : 200 < l.length
  · rw [unE_big hbig]
    go_enter Try.func24, Try.ntmps24
    go_wp2_with fail
    go_ret2
    exact ⟨rfl, Below.refl _ _⟩
  · have hun := w_unescapedR l (by omega)
    cases hu : unGo l [] with
    | none =>
      rw [unE_none hbig hu]
      rw [hu] at hun
      go_enter Try.func24, Try.ntmps24
      go_wp2_with (go_at_call 66; refine (hun _).mono ?_; rintro e w1 ⟨rfl, hb1⟩)
      go_ret2
      exact ⟨rfl, hb1⟩
    | some out =>
      rw [unE_some hbig hu]
      rw [hu] at hun
      go_enter Try.func24, Try.ntmps24
      go_wp2_with (go_at_call 66; refine (hun _).mono ?_; rintro e w1 ⟨⟨A, n, c, rfl⟩, hb1⟩)
      go_ret2
      exact ⟨rfl, hb1⟩
end Go.Proofs.Ytiaboojdplcaoaa
