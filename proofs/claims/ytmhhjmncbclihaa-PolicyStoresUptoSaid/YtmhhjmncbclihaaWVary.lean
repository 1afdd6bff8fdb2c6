/- Walk: vary.Names. -/
import Derived.Test.YtmhhjmncbclihaaSpecs
import Derived.Test.YtmhhjmncbclihaaWGetS
import Derived.Test.YtmhhjmncbclihaaWIs
import Derived.Test.YtmhhjmncbclihaaWSplit
import Derived.Test.YtmhhjmncbclihaaWLow
import Derived.Test.YtmhhjmncbclihaaIter
import Derived.Carry
import Derived.CallsIn
import Derived.Lib.SmallJoins
import Derived.Maps.OwnOps
namespace Go.Proofs.Ytmhhjmncbclihaa
open Go.RowKit Go.Larder
set_option linter.unusedVariables false
set_option linter.unusedSimpArgs false
theorem splitE_pos {s : List UInt8} {n : Int} (h : splitE s = .error n) : (n == 0) = false := by
  have hn : n = 2 ∨ n = 3 := by
    unfold splitE at h
    split at h
    · injection h with h; exact .inl h.symm
    · revert h
      cases hc : cutE 44 s with
      | error k => intro h; simp only at h; injection h with h; subst h; exact .inr (cutE_err 44 s _ hc)
      | ok l => intro h; simp only at h; split at h <;> (first | (injection h with h; exact .inl h.symm) | cases h)
  rcases hn with rfl | rfl <;> rfl
def VyPost (w : World) (r : Except Int (List (List UInt8) × Bool)) (e : Ending) (w' : World) : Prop :=
  ∃ A c, e = .returned (.tuple #[.slice A (flatV r).1.length c, .bool (flatV r).2.1, .int .i64 (flatV r).2.2]) ∧ ReadL encL w' w'.heap.size A (flatV r).1 ∧ Below w.heap.size w w'
theorem vyPost_no {w w' : World} {r : Except Int (List (List UInt8) × Bool)} {n : Int} (h : r = .error n) (hb : Below w.heap.size w w') : VyPost w r (.returned (.tuple #[.slice none 0 0, .bool false, .int .i64 n])) w' := by
  subst h; exact ⟨none, 0, rfl, ReadL.nil (E := encL), hb⟩
theorem vyPost_ok {w w' : World} {r : Except Int (List (List UInt8) × Bool)} {l : List (List UInt8)} {b : Bool} {A : Option Addr} {c n : Nat} (h : r = .ok (l, b)) (hn : n = l.length) (hr : ReadL encL w' w'.heap.size A l) (hb : Below w.heap.size w w') : VyPost w r (.returned (.tuple #[.slice A n c, .bool b, .int .i64 0])) w' := by
  subst h; subst hn; exact ⟨A, c, rfl, hr, hb⟩
theorem nat_wf {k : Nat} (h : k ≤ 1000) : (Lit.int .i64 k).wf = true := by
  simp only [Lit.wf, IntKind.min, IntKind.max, IntKind.signed, IntKind.bits, Bool.and_eq_true, decide_eq_true_eq, if_true]
  omega
/-- the sorted keys, as a list that reads -/
theorem w_keys (g n : Nat) (D : DataW Unit) (w : World) (hown : w.ownsMap Try.prog 9 (plainElem Try.prog 3) g n D) (ns : List (List UInt8)) (hnd : ns.Nodup) (hm : ∀ x, x ∈ ns ↔ Maps.has D (.string x) = true) (hl : ns.length ≤ 1000) :
    Calls Try.prog 68 #[.func (.func 106) #[] #[.pointer (some ⟨w.heap.size, 0, none⟩)]] (w.alloc (.cells #[.map (some g)] 126)) fun e w' => (∃ A c, e = .returned (.slice A (sortL ns).length c) ∧ ReadL encL w' w'.heap.size A (sortL ns)) ∧ Below w.heap.size w w' := by
  obtain ⟨es, hD, hpw, _⟩ := hown.entries (Maps.string_keyed Try.underlying9)
  obtain ⟨es', hD', hko⟩ := hown.keysOf
  obtain rfl : es = es' := by rw [hD] at hD'; simpa using hD'
  subst hD
  have hk : ∀ p ∈ es, ∃ x, p.1 = .string x := fun p hp => by obtain ⟨v, hv⟩ := hko p hp; obtain ⟨x, _, hx, _⟩ := Maps.keyOf_str Try.underlying9 hv; exact ⟨x, hx⟩
  have hlen : Maps.size (.map es : DataW Unit) = ns.length := by
    have hp := perm_strKeys hpw hk hnd hm
    have := hp.length_eq
    simp only [strKeys, List.length_map] at this
    exact this.symm
  have h := callsIn_wide.1 (Try.slices_Sorted_keys_68_80 g n (.map es) (plainElem Try.prog 3) w hown (by rw [hlen]; unfold maxLen; omega) (by rw [hlen]; omega))
  refine h.mono ?_
  rintro e w' ⟨v, ss, rfl, hS, hrow, hnil, hb⟩
  have hkn := keys_names hpw hk hnd hm hS
  change ss.mergeSort leB = _ at hkn
  have hsl : ss.length = (sortL ns).length := by rw [← hkn, List.length_mergeSort]
  have hB : Below w.heap.size w w' := ((Below.refl _ w).alloc (Nat.le_refl _) _).trans (hb.mono (by simp))
  rw [show ((ss.mergeSort fun x y => decide (x ≤ y)).map encStr) = (sortL ns).map (fun s => S s) from by rw [← hkn], hsl] at hrow
  refine ⟨?_, hB⟩
  rcases Go.Joins.ownsRow_forms hrow with ⟨rfl, h0⟩ | ⟨g', cap, rfl⟩
  · have : sortL ns = [] := List.length_eq_zero_iff.1 h0
    rw [this]
    exact ⟨none, 0, rfl, ReadL.nil (E := encL)⟩
  · refine ⟨some ⟨g', 0, none⟩, cap, rfl, ?_⟩
    have ho : OwnL encL w' (w.alloc (.cells #[.map (some g)] 126)).heap.size 9 (some ⟨g', 0, none⟩) cap (sortL ns) := by unfold OwnL; rw [flat_S]; exact hrow
    exact ho.read
set_option maxHeartbeats 4000000 in
theorem w_Names (l : List Fld) (hj : (l.map (fun f => f.1.length + f.2.length + 3)).sum ≤ 1048576) (A : Option Addr) (c : Nat) (w : World) (hr : ReadL encF w w.heap.size A l) :
    Calls Try.prog 40 #[.slice A l.length c] w (VyPost w (varyE (Lib.join (valsL (lowL varyN) l) sepL))) := by
  have hg := w_GetS varyN (by decide) l hj A c w hr
  have hsl := join_ok (nm := lowL varyN) hj
  generalize Lib.join (valsL (lowL varyN) l) sepL = s at *
  generalize (valsL (lowL varyN) l).isEmpty = emp at *
  have hsp := fun W => wt_Split s (by omega) W
  obtain ⟨R, hR⟩ : ∃ R, varyE s = R := ⟨_, rfl⟩
  rw [hR]
  have hmm := @run_makeMap Try.prog
  cases hs : splitE s with
  | error n =>
    have hn := splitE_pos hs
    rw [varyE_err hs] at hR
    have HR := Lib.hid hR.symm
    clear hR hmm
    go_enter Try.func40, Try.ntmps40
    go_wp2_with fail
    refine hg.mono ?_
    rintro e w1 ⟨rfl, hb1⟩
    go_wp2_with fail
    refine (hsp _).mono ?_
    intro e w2 hp
    obtain ⟨rfl, hb2⟩ := hp.err hs
    clear hp hs
    go_wp2_with fail
    go_ret3
    exact vyPost_no HR.out (hb1.trans (hb2.mono hb1.size))
  | ok ps =>
    have hl20 := splitE_ok hs
    have htx := splitE_text hs
    have HR := Lib.hid hR
    have Hs := Lib.hid hs
    clear hR
    go_enter Try.func40, Try.ntmps40
    go_wp2_with fail
    refine hg.mono ?_
    rintro e w1 ⟨rfl, hb1⟩
    go_wp2_with fail
    refine (hsp _).mono ?_
    intro e w2 hp
    obtain ⟨A2, c2, rfl, hown, hb2⟩ := hp.ok_ hs
    have hr2 := hown.read
    have hB2 := hb1.trans (hb2.mono hb1.size)
    have hmd := World.ownsMap_made (H := Unit) w2 Try.prog 9 (plainElem Try.prog 3)
    clear hp hs hsp hg hown
    go_wp2_with fail
    go_loopw [10, 29] (fun s' i' wr => ∃ (k : Nat) (D : DataW Unit), i' = .int .i64 k ∧ s' = .bool ((ps.take k).any fun p => p == [42]) ∧ k ≤ ps.length ∧ Hid ((ps.take k).all isTok = true) ∧ wr.ownsMap Try.prog 9 (plainElem Try.prog 3) w2.heap.size k D ∧ Hid (∀ x, x ∈ namesL (ps.take k) ↔ Maps.has D (.string x) = true) ∧ Below w2.heap.size w2 wr ∧ w2.heap.size + 1 ≤ wr.heap.size) (fun _ i' _ => ps.length - (intOf i').toNat)
    case atStart => exact ⟨0, .map [], rfl, rfl, by omega, Lib.hid rfl, hmd, Lib.hid (by intro x; simp [namesL, Maps.has_eq]), (Below.refl _ _).alloc (Nat.le_refl _) _, by simp⟩
    case round =>
      obtain ⟨k, D, rfl, rfl, hk, hall, hownM, hmem, hbel, hsz⟩ := hrel
      have hbs := hbel.size
      by_cases hlt : k < ps.length
      · obtain ⟨p, hx, hd⟩ := drop_step hlt
        obtain ⟨g, off, hAe, hgb, hc0⟩ := (hr2.below hbel (Nat.le_refl _)).at_S hx
        subst hAe
        have hpl := htx p (List.mem_of_getElem? hx)
        have Hx := Lib.hid hx
        have hti := fun W => w_IsToken p (by omega) W
        have hlo := fun W => w_Lower p (by omega) W
        have hstar := any_step (p := fun p : List UInt8 => p == [42]) hx
        have hns := names_step hx
        clear hx hd
        cases htk : isTok p
        · rw [htk] at hti
          have HR2 := Lib.hid (show R = .error 3 from by rw [← HR.out]; exact varyE_bad Hs.out (allG_bad Hx.out htk))
          clear htk hstar hns
          go_wp2_with fail
          refine (hti _).mono ?_
          rintro e w' ⟨rfl, rfl⟩
          go_wp2_with fail
          go_ret3
          exact vyPost_no HR2.out (hB2.trans (hbel.mono hB2.size))
        · rw [htk] at hti
          have Hall := Lib.hid (allG_step Hx.out hall.out htk)
          have Hstar := Lib.hid hstar
          have Hns := Lib.hid hns
          clear htk hstar hns
          cases hps : (p == [42])
          · have Hps := Lib.hid hps
            go_wp2_with fail
            refine (hti _).mono ?_
            rintro e w' ⟨rfl, rfl⟩
            go_wp2_with fail
            refine (hlo _).mono ?_
            rintro e w4 ⟨rfl, hb4⟩
            have hown4 : w4.ownsMap Try.prog 9 (plainElem Try.prog 3) w2.heap.size k D := by
              obtain ⟨es, clock, hbb, F, hs', hD⟩ := hownM
              exact ⟨es, clock, (hb4.block _ (by omega)).trans hbb, F, hs', hD⟩
            have hlpl := lowL_len p
            have hkey : keyOf Try.prog 9 (S (lowL p)) = some (Lit.string (lowL p)) := by
              have := Go.WideMaps.keyOf_string_mk (P := Try.prog) Try.underlying9 (s := ⟨(lowL p).toArray⟩) (by rw [ba_size]; unfold maxLen; omega)
              simpa using this
            generalize hlw : lowL p = lp at *
            have Hlw := Lib.hid hlw
            clear hlw hps
            go_wp2_with (at_mapUpdate; refine wpList_mapUpdate_own _ rfl _ _ _ 126 rfl 9 3 (Maps.string_keyed Try.underlying9) Try.underlying126 _ w2.heap.size k D rfl hown4 (by unfold maxLen; omega) _ _ _ rfl rfl hkey _ [] (plainElem_int Try.underlying3 (nat_wf (by omega))) ?_; intro w5 hown5 hgrow5)
            go_roundw
            case rel =>
              have hb24 : Below w2.heap.size w2 w4 := hbel.trans (hb4.mono hbs)
              refine ⟨k + 1, _, by go_num, by rw [Hstar.out, Hps.out, Bool.or_false], by omega, Hall, hown5, Lib.hid ?_, hb24.grown hgrow5 hb24.size (fun j e => by cases e; exact Nat.le_refl _), ?_⟩
              · intro x
                rw [Hns.out, addN_mem, hmem.out x, Hlw.out]
                by_cases hxx : x = lp
                · subst hxx
                  obtain ⟨es, _, _, _, _, hDm⟩ := hownM
                  rw [Maps.has_put_same ⟨_, hDm⟩ (show WideAt.IsKeyLit (Lit.string x) from trivial)]
                  simp [Hps.out]
                · rw [Maps.has_put_other (by intro e; injection e with e; exact hxx e)]
                  simp [hxx]
              · have := hb4.size; have := hgrow5.size; omega
            case measure => simp [intOf]; omega
          · have Hps := Lib.hid hps
            have hps2 : p = [42] := by simpa using hps
            subst hps2
            clear hps
            go_wp2_with fail
            refine (hti _).mono ?_
            rintro e w' ⟨rfl, rfl⟩
            go_wp2_with fail
            go_roundw
            case rel =>
              refine ⟨k + 1, D, by go_num, by rw [Hstar.out, Hps.out, Bool.or_true], by omega, Hall, hownM.mono (by omega), Lib.hid ?_, hbel, hsz⟩
              intro x
              rw [Hns.out, addN_mem, hmem.out x]
              simp
            case measure => simp [intOf]; omega
      · obtain rfl : k = ps.length := by omega
        rw [List.take_length] at hall hmem ⊢
        have HR2 := Lib.hid (show R = .ok (sortL (namesL ps), ps.any fun p => p == [42]) from by rw [← HR.out]; exact varyE_ok Hs.out hall.out)
        have hnl := names_len ps
        have hky := w_keys w2.heap.size ps.length D wr hownM (namesL ps) (names_nodup ps) hmem.out (by omega)
        have hmk := fun W => callsIn_wide.1 (Try.maps_Keys_80 (some w2.heap.size) W)
        generalize (ps.any fun p => p == [42]) = star at *
        generalize sortL (namesL ps) = out at *
        clear hmem hall htx hnl
        go_wp2_with fail
        refine (hmk _).mono ?_
        rintro e w' ⟨rfl, rfl⟩
        go_wp2_with fail
        refine hky.mono ?_
        rintro e w7 ⟨⟨A7, c7, rfl, hr7⟩, hb7⟩
        go_wp2_with fail
        go_ret3
        exact vyPost_ok HR2.out rfl hr7 (hB2.trans ((hbel.trans (hb7.mono hbs)).mono hB2.size))
end Go.Proofs.Ytmhhjmncbclihaa
