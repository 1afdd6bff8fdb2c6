/- Walk: the reference's VaryMatch. -/
import Derived.Test.YtmhhjmncbclihaaWVaryM
namespace Go.Proofs.Ytmhhjmncbclihaa
open Go.RowKit Go.Larder
set_option linter.unusedVariables false
set_option linter.unusedSimpArgs false
set_option maxHeartbeats 4000000 in
set_option maxRecDepth 100000 in
theorem w_MatchR (l a b : List Fld) (hj : (l.map (fun f => f.1.length + f.2.length + 3)).sum ≤ 1048576) (hja : (a.map (fun f => f.1.length + f.2.length + 3)).sum ≤ 1048576) (hjb : (b.map (fun f => f.1.length + f.2.length + 3)).sum ≤ 1048576) (A : Option Addr) (c : Nat) (A1 : Option Addr) (c1 : Nat) (A2 : Option Addr) (c2 : Nat) (w : World) (hr : ReadL encF w w.heap.size A l) (hra : ReadL encF w w.heap.size A1 a) (hrb : ReadL encF w w.heap.size A2 b) :
    Calls Try.prog 43 #[.slice A l.length c, .slice A1 a.length c1, .slice A2 b.length c2] w fun e w' => e = .returned (.tuple #[.bool (matchE l a b).1, .int .i64 (matchE l a b).2]) ∧ Below w.heap.size w w' := by
  have hn := w_NamesR l hj A c w hr
  obtain ⟨r, hrr⟩ : ∃ r, varyE (Lib.join (valsL (lowL varyN) l) sepL) = r := ⟨_, rfl⟩
  rw [hrr] at hn
  cases r with
  | error n =>
    have hp := varyE_pos hrr
    have HR := Lib.hid (matchE_err (a := a) (b := b) hrr)
    clear hrr
    go_enter Try.func43, Try.ntmps43
    go_wp2_with fail
    refine hn.mono ?_
    intro e w1 h1
    obtain ⟨A3, c3, rfl, hb1⟩ := vyPost_err h1 rfl
    clear h1
    go_wp2_with fail
    go_ret2
    rw [HR.out]
    exact ⟨rfl, hb1⟩
  | ok p =>
    obtain ⟨ns, st⟩ := p
    obtain ⟨hnl, hnm⟩ := varyE_bound hrr
    have HR := Lib.hid (matchE_ok (a := a) (b := b) hrr)
    clear hrr
    have hgA := fun (x : List UInt8) (hx : x.length ≤ 1000) (W : World) (hW : Below w.heap.size w W) => w_GetRS x hx a hja A1 c1 W ((hra.below hW (Nat.le_refl _)).more hW.size)
    have hgB := fun (x : List UInt8) (hx : x.length ≤ 1000) (W : World) (hW : Below w.heap.size w W) => w_GetRS x hx b hjb A2 c2 W ((hrb.below hW (Nat.le_refl _)).more hW.size)
    go_enter Try.func43, Try.ntmps43
    go_wp2_with fail
    refine hn.mono ?_
    intro e w1 h1
    obtain ⟨A3, c3, rfl, hr3, hb1⟩ := vyPost_yes h1 rfl
    clear h1
    go_wp2_with fail
    go_loopw [11, 31] (fun s' i' wr => ∃ (k : Nat), i' = .int .i64 k ∧ s' = .bool (!(st || (ns.take k).any (diffB a b))) ∧ k ≤ ns.length ∧ Below w1.heap.size w1 wr) (fun _ i' _ => ns.length - (intOf i').toNat)
    case atStart => exact ⟨0, rfl, by simp, by omega, Below.refl _ _⟩
    case round =>
      obtain ⟨k, rfl, rfl, hk, hbel⟩ := hrel
      have hbs := hbel.size
      have hbel2 : Below w.heap.size w wr := hb1.trans (hbel.mono hb1.size)
      by_cases hlt : k < ns.length
      · obtain ⟨x, hx, hd⟩ := drop_step hlt
        obtain ⟨g, off, rfl, hgb, hc0⟩ := (hr3.below hbel (Nat.le_refl _)).at_S hx
        have hstep := any_step (p := diffB a b) hx
        have hxl := hnm x (List.mem_of_getElem? hx)
        have hga := fun W hW => hgA x hxl W hW
        have hgb2 := fun W hW => hgB x hxl W hW
        have hdf : diffB a b x = (!((!(valsL (lowL x) a).isEmpty) == (!(valsL (lowL x) b).isEmpty)) || !(Lib.join (valsL (lowL x) a) sepL == Lib.join (valsL (lowL x) b) sepL)) := rfl
        rw [hdf] at hstep
        clear hx hd hdf
        generalize (!(valsL (lowL x) a).isEmpty) = b1 at *
        generalize (!(valsL (lowL x) b).isEmpty) = b2 at *
        generalize Lib.join (valsL (lowL x) a) sepL = x1 at *
        generalize Lib.join (valsL (lowL x) b) sepL = x2 at *
        generalize ((ns.take k).any (diffB a b)) = s0 at *
        have hga := hga wr hbel2
        cases hxy : (x1 == x2)
        all_goals
          rw [hxy] at hstep
          have Hstep := Lib.hid hstep
          clear hstep
          cases b1 <;> cases b2 <;> cases st <;> cases s0
          all_goals
            go_wp2_with fail
            refine hga.mono ?_
            rintro e w3 ⟨rfl, hb3⟩
            go_wp2_with fail
            refine (hgb2 _ (hbel2.trans (hb3.mono hbel2.size))).mono ?_
            rintro e w4 ⟨rfl, hb4⟩
            go_wp2_with fail
            refine ⟨?_, ?measure⟩
            (repeat (set_option maxRecDepth 200000 in apply Exists.intro))
            refine ⟨?rel, rfl⟩
            case rel => exact ⟨k + 1, by go_num, by rw [Hstep.out]; rfl, by omega, (hbel.trans (hb3.mono hbs)).trans (hb4.mono (Nat.le_trans hbs hb3.size))⟩
            case measure => simp [intOf]; omega
      · obtain rfl : k = ns.length := by omega
        rw [List.take_length]
        generalize (ns.any (diffB a b)) = s0 at *
        go_wp2_with fail
        go_ret2
        rw [HR.out]
        exact ⟨by simp, hb1.trans (hbel.mono hb1.size)⟩
end Go.Proofs.Ytmhhjmncbclihaa
