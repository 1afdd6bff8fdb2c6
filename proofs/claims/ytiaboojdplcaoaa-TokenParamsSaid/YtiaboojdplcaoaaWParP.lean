/- Walk: the program's Params. -/
import Derived.Test.YtiaboojdplcaoaaWPar
import Derived.Test.YtiaboojdplcaoaaApp
namespace Go.Proofs.Ytiaboojdplcaoaa
open Go.RowKit Go.Larder
set_option linter.unusedVariables false
set_option linter.unusedSimpArgs false

theorem sl_par : SlT Try.prog 40 45 2 32 := SlT.mk' (z := .agg #[.string ByteArray.empty, .string ByteArray.empty]) Try.underlying40 (by kernel_rfl) rfl
/-- What a slice's tail reads as, at the walk's address. -/
theorem tail_at {w : World} {B b off : Nat} {x t : List UInt8} {r : List (List UInt8)} {k : Nat} (h : ReadL encS w B (some ⟨b, off, none⟩) (x :: r)) (ht : r[k]? = some t) : w.cell? ⟨b, off + 1 + k, none⟩ = some (S t) := by
  obtain ⟨b', off', hA, _, hc⟩ := (h.at_S (k := k + 1) (x := t) (by simpa using ht))
  injection hA with hA
  injection hA with h1 h2
  subst h1 h2
  rw [show off + 1 + k = off + (k + 1) by omega]
  exact hc
theorem head_at {w : World} {B b off : Nat} {x : List UInt8} {r : List (List UInt8)} (h : ReadL encS w B (some ⟨b, off, none⟩) (x :: r)) : w.cell? ⟨b, off, none⟩ = some (S x) := by
  obtain ⟨b', off', hA, _, hc⟩ := (h.at_S (k := 0) (x := x) rfl)
  injection hA with hA
  injection hA with h1 h2
  subst h1 h2
  exact hc

set_option maxHeartbeats 4000000 in
set_option maxRecDepth 100000 in
theorem w_Params (s : List UInt8) (hs : s.length ≤ 140737488351232) (w : World) :
    Calls Try.prog 28 #[S s] w (ParPost encF 45 w (parsE s)) := by
  obtain ⟨R, hR⟩ : ∃ R, R = parsE s := ⟨_, rfl⟩
  rw [← hR]
  have HR := Lib.hid hR
  clear hR
  by_cases hbig : 1000 < s.length
  · have HR2 := Lib.hid (show R = .error 2 from by rw [HR.out]; exact parsE_big hbig)
    go_enter Try.func28, Try.ntmps28
    go_wp2_with fail
    go_ret3
    rw [HR2.out]
    exact ⟨rfl, Below.refl _ _⟩
  · have hcutc := w_cut 59 s (by omega)
    cases hsp : cutE 59 s with
    | error n =>
      have hn := cutE_err 59 s n hsp
      subst hn
      have HR2 := Lib.hid (show R = .error 3 from by rw [HR.out]; exact parsE_err hbig hsp)
      go_enter Try.func28, Try.ntmps28
      go_wp2_with fail
      refine (hcutc _).mono ?_
      intro e w1 hp1
      obtain ⟨rfl, hb1⟩ := hp1.err hsp
      go_wp2_with fail
      go_ret3
      rw [HR2.out]
      exact ⟨rfl, hb1⟩
    | ok l0 =>
      rcases l0 with _ | ⟨x, l⟩
      · exact absurd hsp (cutE_ne rfl rfl)
      have htx := cutE_text rfl rfl hsp
      have hln := cutE_len 59 s _ hsp
      simp only [List.length_cons] at hln
      cases hxe : (x == [])
      · go_enter Try.func28, Try.ntmps28
        go_wp2_with fail
        refine (hcutc _).mono ?_
        intro e w1 hp1
        obtain ⟨AL, cL, rfl, hownL, hb1⟩ := hp1.ok_ hsp
        have hs1 := hb1.size
        have hcap := hownL.le_cap
        simp only [List.length_cons] at hcap ⊢
        have Hread := Lib.hid (hownL.read)
        obtain ⟨b, off, rfl, hbb, _⟩ := hownL.read (by simp)
        clear hownL
        have hx0 := head_at Hread.out
        have hc1 : 1 ≤ cL := by omega
        have hl1 : 1 ≤ l.length + 1 := by omega
        by_cases hcl : cL = 1
        · have hl0 : l = [] := List.eq_nil_of_length_eq_zero (by omega)
          subst hl0
          subst hcl
          have HR2 := Lib.hid (show R = .ok (x, []) from by rw [HR.out]; exact parsE_ok hbig hsp hxe rfl (by simp))
          go_wp2_with fail
          go_loop [7, 34] (fun o i' => i' = .int .i64 0 ∧ o = .slice none 0 0) (fun _ _ => 0)
          case atStart => exact ⟨rfl, rfl⟩
          case round =>
            obtain ⟨rfl, rfl⟩ := hrel
            go_wp2_with fail
            go_ret3
            rw [HR2.out]
            exact ⟨none, 0, rfl, OwnL.nil _ _ _, hb1⟩
        · have hcl2 : (1 = cL) = False := by simp; omega
          have hcl3 : ¬ cL = 1 := hcl
          go_wp2_with fail
          go_loopw [7, 34] (fun o i' wr => ∃ (k : Nat) (acc : List Par) (A : Option Addr) (c : Nat), i' = .int .i64 k ∧ o = .slice A acc.length c ∧ k ≤ l.length ∧ acc.length ≤ k ∧
              OwnL encF wr w1.heap.size 45 A c acc ∧ Below w1.heap.size w1 wr ∧ parsGo (l.drop k) acc = parsGo l []) (fun _ i' _ => l.length - (intOf i').toNat)
          case atStart => exact ⟨0, [], none, 0, rfl, rfl, by omega, by simp, OwnL.nil _ _ _, Below.refl _ _, rfl⟩
          case round =>
            obtain ⟨k, acc, A, c, rfl, rfl, hk, hak, hown, hbel, heq⟩ := hrel
            have hbs := hbel.size
            have hbW : Below w.heap.size w wr := hb1.trans (hbel.mono hs1)
            have hxr : wr.cell? ⟨b, off, none⟩ = some (S x) := head_at (Hread.out.below hbel (Nat.le_refl _))
            by_cases hlt : k < l.length
            · obtain ⟨t, hx, hst⟩ := drop_step hlt
              have htl := htx t (List.mem_cons_of_mem _ (List.mem_of_getElem? hx))
              have hcell := tail_at (Hread.out.below hbel (Nat.le_refl _)) hx
              have hb9 : b < wr.heap.size := by omega
              rw [hst] at heq
              cases hte : (t == [])
              · cases hp : parR t with
                | none =>
                  rw [parsGo_none hte hp] at heq
                  have HR2 := Lib.hid (show R = .error 3 from by rw [HR.out]; exact parsE_none hbig hsp hxe heq.symm)
                  have hpc := w_param t (by omega)
                  rw [hp] at hpc
                  clear heq hst hx hp
                  go_wp2_with (go_at_call 73; refine (hpc _).mono ?_; rintro e w3 ⟨rfl, hb3⟩; simp only [parV])
                  go_ret3
                  rw [HR2.out]
                  exact ⟨rfl, hbW.trans ((hb3.mono (by omega)).alloc (by have := hb3.size; omega) _)⟩
                | some p =>
                  rw [parsGo_some hte hp] at heq
                  have Heq := Lib.hid heq
                  have hpc := w_param t (by omega)
                  rw [hp] at hpc
                  obtain ⟨p1, p2⟩ := p
                  clear heq hst hx hp
                  go_wp2_with (first
                    | (go_at_call 73; refine (hpc _).mono ?_; rintro e w3 ⟨rfl, hb3⟩; simp only [parV]
                       have hs3 := hb3.size
                       have hownB := (hown.below hb3 (Nat.le_refl _)).alloc (.cells #[S p1, S p2] 45))
                    | (at_builtin; refine wpList_app encF sl_par [(p1, p2)] rfl _ _ rfl rfl hownB #[S p1, S p2] rfl 0 rfl (by first | rfl | (simp [go_sem]; done)) (by omega) (by simp only [maxLen]; omega) (by simp; omega) ?_; intro g' c'' w4 hown4 hg4 hb4 hbg))
                  go_roundw
                  case rel => exact ⟨k + 1, acc ++ [(p1, p2)], some ⟨g', 0, none⟩, c'', by go_num, by simp, by omega, by simp; omega, hown4, ((hbel.trans (hb3.mono hbs)).alloc (by omega) _).trans hb4, Heq.out⟩
                  case measure => simp [intOf]; omega
              · rw [parsGo_skip hte] at heq
                have Heq := Lib.hid heq
                clear heq hst hx
                go_wp2_with fail
                go_roundw
                case rel => exact ⟨k + 1, acc, A, c, by go_num, rfl, by omega, by omega, hown, hbel, Heq.out⟩
                case measure => simp [intOf]; omega
            · rw [drop_end hlt, parsGo_nil] at heq
              by_cases h20 : 20 < acc.length
              · have HR2 := Lib.hid (show R = .error 2 from by rw [HR.out]; exact parsE_many hbig hsp hxe heq.symm h20)
                clear heq
                go_wp2_with fail
                go_ret3
                rw [HR2.out]
                exact ⟨rfl, hbW⟩
              · have HR2 := Lib.hid (show R = .ok (x, acc) from by rw [HR.out]; exact parsE_ok hbig hsp hxe heq.symm h20)
                clear heq
                go_wp2_with fail
                go_ret3
                rw [HR2.out]
                exact ⟨A, c, rfl, hown.base_le hs1, hbW⟩
      · have HR2 := Lib.hid (show R = .error 3 from by rw [HR.out]; exact parsE_first hbig hsp hxe)
        go_enter Try.func28, Try.ntmps28
        go_wp2_with fail
        refine (hcutc _).mono ?_
        intro e w1 hp1
        obtain ⟨AL, cL, rfl, hownL, hb1⟩ := hp1.ok_ hsp
        have hread := hownL.read
        obtain ⟨b, off, rfl, hbb, _⟩ := hownL.read (by simp)
        clear hownL
        have hx0 := head_at hread
        clear hread
        simp only [List.length_cons]
        go_wp2_with fail
        go_ret3
        rw [HR2.out]
        exact ⟨rfl, hb1⟩
end Go.Proofs.Ytiaboojdplcaoaa
