/- Walk: the reference's Unbundle. -/
import Derived.Test.YtgjikbhehijnaaaDoorWUnb
import Derived.Test.YtgjikbhehijnaaaDoorWCtR
import Derived.Test.YtgjikbhehijnaaaDoorWRep
import Derived.Test.YtgjikbhehijnaaaDoorBody
import Derived.StillTailTactics
import Derived.Laws.Slices
namespace Go.Proofs.YtgjikbhehijnaaaDoor
open Go.RowKit Go.Larder
set_option linter.unusedVariables false
set_option linter.unusedSimpArgs false
theorem unbR_read {bd s r : List UInt8} {z : Int} {gs : List Gp} {l : List Prt} (h : UnbR bd s gs r) (hl : UnbOK bd z s l) (hp : Lib.hasPrefix r (bunHead bd) = true) : ∃ a b x r', gOK (goodG z ((a, b), x)) ∧ r.drop (bunHead bd).length = ctL a b z ++ (CCs ++ (x ++ ([13, 10] ++ r'))) := by
  obtain ⟨k, m, rfl, rfl, hr, hat⟩ := h.at_ hl
  have hne : r ≠ unbEnd bd := by
    intro e
    rw [pre_yes hp] at e
    exact head_end bd _ e
  obtain ⟨a, b, x, r', ho, hrr, _⟩ := hat.next hl hne
  exact ⟨a, b, x, r', ho, by rw [hrr, List.drop_left]⟩
theorem w_noneR (w : World) : Calls Tryd.prog 55 #[] w fun e w' => e = .returned (.tuple #[.slice none 0 0, .slice none 0 0, .int .i64 3]) ∧ w = w' := by
  go_enter Tryd.func55, Tryd.ntmps55
  go_wp2_with fail
  go_ret3
  exact ⟨rfl, rfl⟩
theorem unbOK_z {bd s : List UInt8} {z : Int} {l : List Prt} (h : UnbOK bd z s l) : 1 ≤ z ∧ z ≤ 99999 := by
  have h1 := h.one
  cases l with
  | nil => simp at h1
  | cons x l =>
    have := good_all (h.ok x (by simp))
    omega
/-- what the reference has taken in -/
structure UnbS (bd s : List UInt8) (z : Nat) (gs : List Gp) (r : List UInt8) : Prop where
  at_ : UnbR bd s gs r
  top : ∀ g ∈ gs, g.1.1.2 ≤ z
theorem UnbS.in_ {bd s r : List UInt8} {z : Nat} {gs : List Gp} (h : UnbS bd s z gs r) : ∀ x ∈ gs.map (fun g => g.1), 0 ≤ x.1.1 ∧ x.1.1.toNat + x.2.length ≤ z := by
  intro x hx
  obtain ⟨g, hg, rfl⟩ := List.mem_map.1 hx
  obtain ⟨h1, h2, _⟩ := h.at_.ok g hg
  have := ctOK_iff.1 h1
  have := h.top g hg
  exact ⟨by omega, by omega⟩
theorem UnbS.len {bd s r : List UInt8} {z : Nat} {gs : List Gp} (h : UnbS bd s z gs r) : (layAll z (gs.map fun g => g.1)).length = z := layAll_len _ fun x hx => (h.in_ x hx).2
theorem ret_no {bd s : List UInt8} {z : Int} {w w' : World} {e : Ending} (he : e = .returned (.tuple #[.slice none 0 0, .slice none 0 0, .int .i64 3])) (hn : ¬ ((isTok bd && decide (bd.length ≤ 30)) = true ∧ ∃ l, UnbOK bd z s l)) (hb : Below w.heap.size w w') : UnbOut bd z s w e w' := ⟨.inr ⟨he, hn⟩, hb⟩
theorem sl_u8U : SlT Tryd.prog 67 5 1 1 := SlT.mk' (z := .int .u8 0) Tryd.underlying67 (by kernel_rfl) rfl
theorem elem_u8U : Tryd.prog.elem 67 = 5 := by kernel_rfl
theorem und_u8U : Tryd.prog.underlying 67 = some (.slice (Tryd.prog.elem 67)) := by rw [elem_u8U]; exact Tryd.underlying67
theorem sizeOf_u8U (w : World) : (sizeOf 5).run Tryd.prog w = .ok 1 w := by
  obtain ⟨i, z, hi, _, hs, _⟩ := sl_u8U.info
  simp [sizeOf, typeInfo, hi]
  exact hs
theorem run_sliceU8 (g n c lo : Nat) (h1 : lo < n) (h2 : n ≤ c) (w : World) : (Instr.slice 67 (.slice (some ⟨g, 0, none⟩) n c) (some (.int .i64 (lo : Int))) none none).run Tryd.prog w = .ok (.slice (some ⟨g, lo, none⟩) (n - lo) (c - lo)) w := by
  refine (run_slice_l (P := Tryd.prog) (w := w) (t := 67) (a := some ⟨g, 0, none⟩) (len := n) (cap := c) und_u8U .i64 (lo : Int) (by omega) (by omega)).trans ?_
  rw [elem_u8U, sizeOf_u8U]
  simp only [Result.andThen, Int.toNat_natCast, sliced]
  rw [if_neg (by omega)]
  simp [Addr.add]
  try (intro h; exact h.symm)
theorem bunGo_err {bd s : List UInt8} : ∀ {l : List (Int × Int)} {acc : List UInt8} {n : Int}, bunGo bd s l acc = .error n → (n == 0) = false
  | [], acc, n, h => by rw [bunGo] at h; cases h
  | x :: l, acc, n, h => by
    cases hc : ctOK x.1 x.2 s.length
    · rw [bunGo_no hc] at h; cases h; rfl
    · rw [bunGo_yes hc] at h; exact bunGo_err h
theorem bunE_err {bd s : List UInt8} {l : List (Int × Int)} {n : Int} (h : bunE bd s l = .error n) : (n == 0) = false := by
  unfold bunE at h
  split at h
  · split at h
    · exact bunGo_err h
    · cases h; rfl
  · cases h; rfl
set_option maxHeartbeats 8000000 in
set_option maxRecDepth 100000 in
theorem w_UnbundleR (bd s : List UInt8) (z : Int) (hs : s.length ≤ 1048576) (hbl : bd.length ≤ 1048576) (hzr : -9223372036854775808 ≤ z ∧ z ≤ 9223372036854775807) (w : World) (hM : ML w) :
    Calls Tryd.prog 29 #[S bd, S s, .int .i64 z] w (UnbOut bd z s w) := by
  have hib := fun w => w_TokenR bd (by omega) w
  have hno := fun w => w_noneR w
  have hou := fun w => w_outside z 1 99999 w
  cases ht : isTok bd
  · rw [ht] at hib
    have Ht := Lib.hid ht
    clear ht
    go_enter Tryd.func29, Tryd.ntmps29
    go_wp2_with (go_at_call 56; refine (hib _).mono ?_; rintro e w' ⟨rfl, rfl⟩)
    refine (hno _).mono ?_
    rintro e w' ⟨rfl, rfl⟩
    go_wp2_with fail
    go_ret3
    exact ret_no rfl (fun h => by rw [Ht.out] at h; simp at h) (Below.refl _ _)
  · rw [ht] at hib
    have Ht := Lib.hid ht
    clear ht
    by_cases hb30 : bd.length ≤ 30
    · by_cases hz : 1 ≤ z ∧ z ≤ 99999
      · have Hbd := Lib.hid (show (isTok bd && decide (bd.length ≤ 30)) = true from by rw [Ht.out]; simpa using hb30)
        rw [show (decide (z < 1) || decide ((99999 : Int) < z)) = false from by simp; omega] at hou
        obtain ⟨zn, rfl⟩ : ∃ zn : Nat, z = zn := ⟨z.toNat, by omega⟩
        have hz1 : 1 ≤ zn := by omega
        have hz2 : zn ≤ 99999 := by omega
        clear hz hzr
        have hch : ∀ w, Calls Tryd.prog 37 #[.int .i64 0] w fun e w2 => e = .returned (S [0]) ∧ Below w.heap.size w w2 := fun w => c1_chr 0 (by omega) w
        have hrp := fun w => w_RepZ zn (by omega) w
        have hcv := fun W => run_bytes_of_string (P := Tryd.prog) W 9 67 5 ⟨(List.replicate zn (0 : UInt8)).toArray⟩ Tryd.underlying9 Tryd.underlying67 Tryd.underlying5
        go_enter Tryd.func29, Tryd.ntmps29
        go_wp2_with (first
          | (go_at_call 56; refine (hib _).mono ?_; rintro e w' ⟨rfl, rfl⟩)
          | (go_at_call 42; refine (hou _).mono ?_; rintro e w' ⟨rfl, rfl⟩))
        refine (hch _).mono ?_
        rintro e w1 ⟨rfl, hb1⟩
        go_wp2_with fail
        refine (hrp _).mono ?_
        rintro e w2 ⟨rfl, hb2⟩
        go_wp2_with fail
        obtain ⟨cap, hcap⟩ : ∃ cap, grownCap w2 zn 0 5 = cap := ⟨_, rfl⟩
        have hcz : zn ≤ cap := by rw [← hcap]; exact grownCap_ge w2 zn 0 5
        rw [hcap]
        clear hcap hcv
        have hbo : BodyAt (w2.alloc (.cells (bytesRow ⟨Array.replicate zn 0⟩ cap) 5 ((bytesRow ⟨Array.replicate zn 0⟩ cap).size, (bytesRow ⟨Array.replicate zn 0⟩ cap).size + 1))).drew w2.heap.size 5 (layAll zn (([] : List Gp).map fun g => g.1)) := by
          have h := BodyAt.new w2 (List.replicate zn 0) cap 5
          rw [show ((List.replicate zn (0 : UInt8)).toArray) = Array.replicate zn 0 from by simp] at h
          exact h.same rfl
        have hb12 := hb1.trans (hb2.mono hb1.size)
        have hB0 : Below w.heap.size w (w2.alloc (.cells (bytesRow ⟨Array.replicate zn 0⟩ cap) 5 ((bytesRow ⟨Array.replicate zn 0⟩ cap).size, (bytesRow ⟨Array.replicate zn 0⟩ cap).size + 1))).drew := (hb12.alloc hb12.size _).drew
        have hgw : w.heap.size ≤ w2.heap.size := hb12.size
        generalize (w2.alloc (.cells (bytesRow ⟨Array.replicate zn 0⟩ cap) 5 ((bytesRow ⟨Array.replicate zn 0⟩ cap).size, (bytesRow ⟨Array.replicate zn 0⟩ cap).size + 1))).drew = W0 at *
        generalize w2.heap.size = gb at *
        have hHb : bunHead bd = 45 :: 45 :: (bd ++ [13, 10, 67, 111, 110, 116, 101, 110, 116, 45, 82, 97, 110, 103, 101, 58, 32]) := by simp [bunHead]
        have hHl : (bunHead bd).length ≤ 60 := by rw [hHb]; simp; omega
        generalize (45 :: 45 :: (bd ++ [13, 10, 67, 111, 110, 116, 101, 110, 116, 45, 82, 97, 110, 103, 101, 58, 32]) : List UInt8) = H at *
        rw [hHb] at hHl
        have HHb := Lib.hid hHb
        clear hHb hch hrp hb1 hb2 hb12 hou
        go_loopw [12, 13, 14] (fun l' t' s' wr => ∃ (gs : List Gp) (r : List UInt8) (A : Option Addr) (c : Nat) (A' : Option Addr) (c' : Nat), l' = .slice A gs.length c ∧ t' = .slice A' gs.length c' ∧ s' = S r ∧ gs.length + r.length ≤ s.length ∧ Hid (UnbS bd s zn gs r) ∧ OwnL encII wr w.heap.size 61 A c (gs.map fun g => g.1.1) ∧ OwnL encS wr w.heap.size 9 A' c' (gs.map fun g => g.1.2) ∧
          BodyAt wr gb 5 (layAll zn (gs.map fun g => g.1)) ∧ Below w.heap.size w wr) (fun _ _ s' _ => lenOf s')
        case atStart => exact ⟨[], s, none, 0, none, 0, rfl, rfl, rfl, by simp, Lib.hid ⟨⟨rfl, fun g hg => by cases hg⟩, fun g hg => by cases hg⟩, OwnL.nil _ _ _, OwnL.nil _ _ _, hbo, hB0⟩
        case round =>
          obtain ⟨gs, r, A, c, A', c', rfl, rfl, rfl, hrl, hat, hop, hot, hbo, hbel⟩ := hrel
          obtain ⟨wo, hwo⟩ : ∃ wo, wo = wr := ⟨_, rfl⟩
          subst hwo
          have hpp := fun w => w_HasPre r H w
          cases hp : Lib.hasPrefix r H
          · rw [hp] at hpp
            have Hp := Lib.hid hp
            clear hp
            have hBl := hat.out.len
            have HB := Lib.hid (rfl : layAll zn (gs.map fun g => g.1) = layAll zn (gs.map fun g => g.1))
            generalize hBe : layAll zn (gs.map fun g => g.1) = B at hbo hBl HB
            have HBe := Lib.hid hBe
            clear hBe HB
            have hcs := run_bytes_str (P := Tryd.prog) 67 9 Tryd.underlying67 Tryd.underlying5 Tryd.underlying9 (hbo.read hbo.lt) cap
            have hbr := w_BundleR bd B (gs.map fun g => g.1.1) (by omega) (by omega) (by simp; omega) (fun x hx => by
              obtain ⟨g, hg, rfl⟩ := List.mem_map.1 hx
              have h1 := (hat.out.at_.ok g hg).1
              have := ctOK_iff.1 h1
              omega) A c wo hop.read
            rw [List.length_map] at hbr
            rw [hBl] at hcs
            have Hbl := Lib.hid hBl
            clear hBl
            obtain ⟨R, hR⟩ : ∃ R, bunE bd B (gs.map fun g => g.1.1) = R := ⟨_, rfl⟩
            have Hno := Lib.hid (show (∃ l, UnbOK bd zn s l) → R = .ok s from fun ⟨l, hl⟩ => by
              obtain ⟨h1, h2⟩ := hat.out.at_.no hl (by rw [HHb.out]; exact Hp.out) Hbd.out
              rw [← hR, ← HBe.out, h1]; exact h2)
            have Hyes := Lib.hid (show R = .ok s → UnbOK bd zn s (gs.map fun g => g.1) from fun h => hat.out.at_.yes Hbl.out (by rw [hR]; exact h))
            rw [hR] at hbr
            have hRe : ∀ n, R = .error n → (n == 0) = false := fun n h => bunE_err (hR.trans h)
            have HRe := Lib.hid hRe
            clear hR hRe
            go_wp2_with fail
            refine (hpp _).mono ?_
            rintro e w' ⟨rfl, rfl⟩
            go_wp2_with fail
            cases R with
            | error n =>
              refine hbr.mono ?_
              rintro e w1 ⟨rfl, hb1⟩
              have hB := hbel.trans (hb1.mono hbel.size)
              have HnoN := Lib.hid (show ¬ ((isTok bd && decide (bd.length ≤ 30)) = true ∧ ∃ l, UnbOK bd zn s l) from fun h => by have := Hno.out h.2; cases this)
              have hnB : (n == 0) = false := HRe.out n rfl
              go_wp2_with fail
              refine (hno _).mono ?_
              rintro e w' ⟨rfl, rfl⟩
              go_wp2_with fail
              go_ret3
              exact ret_no rfl HnoN.out hB
            | ok t =>
              refine hbr.mono ?_
              rintro e w1 ⟨rfl, hb1⟩
              have hB := hbel.trans (hb1.mono hbel.size)
              by_cases hts : t = s
              · subst hts
                have htB : (t == t) = true := by simp
                have Hy := Lib.hid (Hyes.out rfl)
                have hP := ((hop.below hb1 (Nat.le_refl _)).read)
                have hT := ((hot.below hb1 (Nat.le_refl _)).read)
                go_wp2_with fail
                go_ret3
                exact ⟨.inl ⟨gs.map fun g => g.1, A, c, A', c', Hbd.out, Hy.out, by rw [List.length_map]; rfl, by rw [List.map_map]; exact hP, by rw [List.map_map]; exact hT⟩, hB⟩
              · have HnoN := Lib.hid (show ¬ ((isTok bd && decide (bd.length ≤ 30)) = true ∧ ∃ l, UnbOK bd zn s l) from fun h => by have := Hno.out h.2; injection this with this; exact hts this)
                have htB : (t == s) = false := by simpa using hts
                go_wp2_with fail
                refine (hno _).mono ?_
                rintro e w' ⟨rfl, rfl⟩
                go_wp2_with fail
                go_ret3
                exact ret_no rfl HnoN.out hB
          · rw [hp] at hpp
            have Hp := Lib.hid hp
            have hHr : H.length ≤ r.length := by
              have := pre_yes hp
              rw [this]; simp
            clear hp
            have hs1 := fun w => run_sliceT (P := Tryd.prog) 9 Tryd.underlying9 r (H.length : Int) (by omega) (by omega) w
            simp only [Int.toNat_natCast] at hs1
            have hql : (r.drop H.length).length + H.length = r.length := by rw [List.length_drop]; omega
            obtain ⟨q, hq⟩ : ∃ q, r.drop H.length = q := ⟨_, rfl⟩
            have Hq := Lib.hid hq
            have hH1 : 1 ≤ H.length := by rw [← HHb.out]; simp [bunHead]
            have Hrd := Lib.hid (show ∀ l, UnbOK bd zn s l → ∃ a b x r', gOK (goodG zn ((a, b), x)) ∧ q = ctL a b zn ++ (CCs ++ (x ++ ([13, 10] ++ r'))) from fun l hl => by
              have := unbR_read hat.out.at_ hl (by rw [HHb.out]; exact Hp.out)
              rw [HHb.out, hq] at this
              exact this)
            rw [hq] at hs1 hql
            have Hql := Lib.hid hql
            have hqb : q.length ≤ 1048576 := by omega
            clear hq hql
            have hidx := fun w hMW => w_Index q CCs (by omega) w hMW
            rcases Lib.index_spec q CCs with ⟨hi, _⟩ | ⟨i, hi, hil, h1, h2⟩
            · rw [hi] at hidx
              have HnoN := Lib.hid (show ¬ ((isTok bd && decide (bd.length ≤ 30)) = true ∧ ∃ l, UnbOK bd zn s l) from fun ⟨_, l, hl⟩ => by
                obtain ⟨a, b, x, r', ho, rfl⟩ := Hrd.out l hl
                rw [index_no13 (ctL_no13 a b zn)] at hi
                omega)
              clear hi
              go_wp2_with fail
              refine (hpp _).mono ?_
              rintro e w' ⟨rfl, rfl⟩
              go_wp2_with fail
              refine (hidx _ (hM.keep hbel)).mono ?_
              rintro e w' ⟨rfl, rfl⟩
              go_wp2_with fail
              refine (hno _).mono ?_
              rintro e w' ⟨rfl, rfl⟩
              go_wp2_with fail
              go_ret3
              exact ret_no rfl HnoN.out hbel
            · rw [hi] at hidx
              clear h1 h2
              obtain ⟨hqe, hi4⟩ := index_true hi
              have hs2 := fun w => run_sliceU (P := Tryd.prog) 9 Tryd.underlying9 q (i : Int) (by omega) (by omega) w
              simp only [Int.toNat_natCast] at hs2
              have htl : (q.take i).length = i := by rw [List.length_take]; omega
              have hrl2 : (q.drop (i + 4)).length + (i + 4) = q.length := by rw [List.length_drop]; omega
              obtain ⟨told, htold⟩ : ∃ told, q.take i = told := ⟨_, rfl⟩
              obtain ⟨rest, hrest⟩ : ∃ rest, q.drop (i + 4) = rest := ⟨_, rfl⟩
              rw [htold] at hs2 htl hqe
              rw [hrest] at hrl2 hqe
              have Hqe := Lib.hid hqe
              have Htold := Lib.hid htold
              have Hrest := Lib.hid hrest
              have Htl := Lib.hid htl
              have Hrl2 := Lib.hid hrl2
              have hib : i + 4 ≤ 1048576 := by omega
              have Hrd2 := Lib.hid (show ∀ l, UnbOK bd zn s l → ∃ a b x r', gOK (goodG zn ((a, b), x)) ∧ told = ctL a b zn ∧ rest = x ++ ([13, 10] ++ r') from fun l hl => by
                obtain ⟨a, b, x, r', ho, hqq⟩ := Hrd.out l hl
                have e1 : (ctL a b zn).length = i := by
                  have := index_no13 (r := x ++ ([13, 10] ++ r')) (ctL_no13 a b zn)
                  rw [← hqq, hi] at this
                  omega
                refine ⟨a, b, x, r', ho, ?_, ?_⟩
                · rw [← htold, hqq, ← e1, List.take_left]
                · rw [← hrest, hqq, ← List.drop_drop, ← e1, List.drop_left]; rfl)
              clear hi htold hrest hqe htl hrl2
              have hct := fun W => w_CtParseR told (by have := Htl.out; omega) W
              go_wp2_with fail
              refine (hpp _).mono ?_
              rintro e w' ⟨rfl, rfl⟩
              go_wp2_with fail
              refine (hidx _ (hM.keep hbel)).mono ?_
              rintro e w' ⟨rfl, rfl⟩
              go_wp2_with fail
              refine (hct _).mono ?_
              rintro e w3 ⟨⟨a, b, z2, hc, rfl⟩ | ⟨rfl, hno2⟩, hb3⟩
              · have hcb := ctOK_iff.1 hc.1
                obtain ⟨n, hn⟩ : ∃ n : Nat, b - a = (n : Int) := ⟨(b - a).toNat, by omega⟩
                obtain rfl : b = a + n := by omega
                have hB1 := hbel.trans (hb3.mono hbel.size)
                have hB2 := hB1.alloc hB1.size (.cells #[.int .i64 a, .int .i64 (a + n)] 61)
                by_cases hgo : i + 6 + n ≤ q.length ∧ a + n ≤ zn
                · obtain ⟨hlen6, hzn⟩ := hgo
                  have hlen : n + 2 ≤ rest.length := by have := Hrl2.out; omega
                  have Hstep := Lib.hid (show UnbS bd s zn (gs ++ [(((a, a + (n : Int)), rest.take n), z2, (rest.drop n).take 2)]) (rest.drop (n + 2)) from by
                    refine ⟨hat.out.at_.step (x := rest.take n) (t := (rest.drop n).take 2) ⟨hc.1, by simp; omega, by simp; omega⟩ ?_, ?_⟩
                    · have e0 : r = bunHead bd ++ q := by
                        rw [← Hq.out, HHb.out]
                        have := pre_yes Hp.out
                        unfold Lib.trimPrefix at this
                        rw [if_pos Hp.out] at this
                        exact this
                      have e3 : rest = rest.take n ++ ((rest.drop n).take 2 ++ rest.drop (n + 2)) := by
                        conv => lhs; rw [← List.take_append_drop n rest, ← List.take_append_drop 2 (rest.drop n), List.drop_drop]
                      rw [e0, Hqe.out]
                      conv => lhs; rw [e3, ← hc.2]
                    · intro g hg
                      rw [List.mem_append, List.mem_singleton] at hg
                      rcases hg with hg | rfl
                      · exact hat.out.top g hg
                      · exact hzn)
                  have hs3 := fun w => run_sliceS (P := Tryd.prog) 9 Tryd.underlying9 q ((i : Int) + 4) ((i : Int) + 4 + n) (by omega) (by omega) (by omega) w
                  have hs4 := fun w => run_sliceT (P := Tryd.prog) 9 Tryd.underlying9 q ((i : Int) + 6 + n) (by omega) (by omega) w
                  rw [show ((i : Int) + 4).toNat = i + 4 from by omega, show ((i : Int) + 4 + n).toNat - (i + 4) = n from by omega, Hrest.out] at hs3
                  rw [show ((i : Int) + 6 + n).toNat = (i + 4) + (n + 2) from by omega, ← List.drop_drop, Hrest.out] at hs4
                  have hxl : (rest.take n).length = n := by rw [List.length_take]; omega
                  have hrl3 := Lib.hid (show (rest.drop (n + 2)).length + (n + 2) = rest.length from by rw [List.length_drop]; omega)
                  have hlay : layAll zn ((gs ++ [(((a, a + (n : Int)), rest.take n), z2, (rest.drop n).take 2)]).map fun g => g.1) = layP (layAll zn (gs.map fun g => g.1)) ((a, a + (n : Int)), rest.take n) := by
                    rw [List.map_append]; exact layAll_snoc _ _ _
                  have hll := Lib.hid hat.out.len
                  have Hlay := Lib.hid hlay
                  clear hlay
                  obtain ⟨an, rfl⟩ : ∃ an : Nat, a = an := ⟨a.toNat, by omega⟩
                  generalize ht2 : (rest.drop n).take 2 = t2 at *
                  generalize hxt : rest.take n = xt at *
                  generalize hr3 : rest.drop (n + 2) = r3 at *
                  clear ht2 hxt hr3
                  have hs5 := fun w => run_sliceU8 gb zn cap an (by omega) hcz w
                  have hw1 : IntKind.i64.wrap ((i : Int) + 4) = (i : Int) + 4 := by simp [IntKind.wrap, IntKind.bits, IntKind.signed]; omega
                  have hw2 : IntKind.i64.wrap ((i : Int) + 4 + n) = (i : Int) + 4 + n := by simp [IntKind.wrap, IntKind.bits, IntKind.signed]; omega
                  go_wp2_with fail
                  have hP := hop.keep (w' := w3) fun a ha => hb3.block a.block (hop.lt a ha).2
                  have hT := hot.keep (w' := w3) fun a ha => hb3.block a.block (hot.lt a ha).2
                  have hY := hbo.keep hb3
                  have hPlt := fun a ha => (hP.lt a ha).2
                  have hB := hB1
                  have hP := (hP.alc (.cells #[.int .i64 an, .int .i64 (an + n)] 61)).drw
                  have hT := (hT.alc (.cells #[.int .i64 an, .int .i64 (an + n)] 61)).drw
                  have hY := (hY.alloc (.cells #[.int .i64 an, .int .i64 (an + n)] 61)).drew
                  have hX := (BoxAt.new w3 [.int .i64 an, .int .i64 (an + n)] 61).drew
                  have hB := (hB.alloc hB.size (.cells #[.int .i64 an, .int .i64 (an + n)] 61)).drew
                  refine wp_region_held_drew (S := (fun W => W.cell? ⟨w3.heap.size, 0, none⟩ = some (.int .i64 an) ∧ W.cell? ⟨w3.heap.size, 1, none⟩ = some (.int .i64 (an + n)))) (by kernel_rfl) ⟨hX.cell (j := 0) rfl, hX.cell (j := 1) rfl⟩ (fun hHeld => ?_)
                  refine wpAnyH_take (i := 0) (v := ?_) rfl (by kernel_rfl) (by kernel_rfl) (by kernel_rfl) (fun _ _ _ h => h) (Or.inl ⟨by rfl, by (intro W hSw; (try dsimp only at hSw); go_simp; try (with_reducible rfl))⟩) (by assumption) ?_
                  try simp only [Act.put, List.setIfInBounds_toArray, List.set_cons_zero, List.set_cons_succ]
                  refine wpAnyH_take (i := 1) (v := ?_) rfl (by kernel_rfl) (by kernel_rfl) (by kernel_rfl) (fun _ _ _ h => h) (Or.inl ⟨by rfl, by (intro W hSw; (try dsimp only at hSw); go_simp; try (with_reducible rfl))⟩) (by assumption) ?_
                  try simp only [Act.put, List.setIfInBounds_toArray, List.set_cons_zero, List.set_cons_succ]
                  refine wpAnyH_take (i := 4) (v := ?_) rfl (by kernel_rfl) (by kernel_rfl) (by kernel_rfl) (fun _ _ _ h => h) (Or.inl ⟨by rfl, by (intro W hSw; (try dsimp only at hSw); go_simp; try (with_reducible rfl))⟩) (by assumption) ?_
                  try simp only [Act.put, List.setIfInBounds_toArray, List.set_cons_zero, List.set_cons_succ]
                  refine wpAnyH_take (i := 5) (v := ?_) rfl (by kernel_rfl) (by kernel_rfl) (by kernel_rfl) (fun _ _ _ h => h) (Or.inl ⟨by rfl, by (intro W hSw; (try dsimp only at hSw); go_simp; try (with_reducible rfl))⟩) (by assumption) ?_
                  try simp only [Act.put, List.setIfInBounds_toArray, List.set_cons_zero, List.set_cons_succ]
                  refine wpAnyH_take (i := 6) (v := ?_) rfl (by kernel_rfl) (by kernel_rfl) (by kernel_rfl) (fun _ _ _ h => h) (Or.inl ⟨by rfl, by (intro W hSw; (try dsimp only at hSw); go_simp; try (with_reducible rfl))⟩) (by assumption) ?_
                  try simp only [Act.put, List.setIfInBounds_toArray, List.set_cons_zero, List.set_cons_succ]
                  refine wpAnyH_take (i := 7) (v := ?_) rfl (by kernel_rfl) (by kernel_rfl) (by kernel_rfl) (fun _ _ _ h => h) (Or.inl ⟨by rfl, by (intro W hSw; (try dsimp only at hSw); go_simp; try (with_reducible rfl))⟩) (by assumption) ?_
                  try simp only [Act.put, List.setIfInBounds_toArray, List.set_cons_zero, List.set_cons_succ]
                  refine wpAnyH_take (i := 8) (v := ?_) rfl (by kernel_rfl) (by kernel_rfl) (by kernel_rfl) (fun _ _ _ h => h) (Or.inl ⟨by rfl, by (intro W hSw; (try dsimp only at hSw); go_simp; try (with_reducible rfl))⟩) (by assumption) ?_
                  try simp only [Act.put, List.setIfInBounds_toArray, List.set_cons_zero, List.set_cons_succ]
                  refine wpAnyH_take (i := 9) (v := ?_) rfl (by kernel_rfl) (by kernel_rfl) (by kernel_rfl) (fun _ _ _ h => h) (Or.inl ⟨by rfl, by (intro W hSw; (try dsimp only at hSw); go_simp; try (with_reducible rfl))⟩) (by assumption) ?_
                  try simp only [Act.put, List.setIfInBounds_toArray, List.set_cons_zero, List.set_cons_succ]
                  refine wpAnyH_take (i := 10) (v := ?_) rfl (by kernel_rfl) (by kernel_rfl) (by kernel_rfl) (fun _ _ _ h => h) (Or.inl ⟨by rfl, by (intro W hSw; (try dsimp only at hSw); go_simp; try (with_reducible rfl))⟩) (by assumption) ?_
                  try simp only [Act.put, List.setIfInBounds_toArray, List.set_cons_zero, List.set_cons_succ]
                  refine wpAnyH_take (i := 11) (v := ?_) rfl (by kernel_rfl) (by kernel_rfl) (by kernel_rfl) (fun _ _ _ h => h) (Or.inl ⟨by rfl, by (intro W hSw; (try dsimp only at hSw); go_simp; try (with_reducible rfl))⟩) (by assumption) ?_
                  try simp only [Act.put, List.setIfInBounds_toArray, List.set_cons_zero, List.set_cons_succ]
                  refine wpAnyH_take (i := 12) (v := ?_) rfl (by kernel_rfl) (by kernel_rfl) (by kernel_rfl) (fun _ _ _ h => h) (Or.inl ⟨by rfl, by (intro W hSw; (try dsimp only at hSw); go_simp; try (with_reducible rfl))⟩) (by assumption) ?_
                  try simp only [Act.put, List.setIfInBounds_toArray, List.set_cons_zero, List.set_cons_succ]
                  refine wpAnyH_ready (rs := [2, 13]) (by kernel_rfl) (by simp) ?_
                  refine AllReadyH.cons rfl (fun K hK => ?_) ?_
                  · (have lP := own_lit (E := encII) (w3.alloc (.cells #[.int .i64 an, .int .i64 (an + n)] 61)).drew w.heap.size 61 #[.int .i64 an, .int .i64 (an + n)] [((an, an + (n : Int)) : Int × Int)] rfl hB.size (by simp [maxLen]); rw [show (w3.alloc (.cells #[.int .i64 an, .int .i64 (an + n)] 61)).drew.heap.size = w3.heap.size + 1 from by simp [heap_drew]] at lP; have hP := hP.alc (.cells #[.int .i64 an, .int .i64 (an + n)] 61); have hT := hT.alc (.cells #[.int .i64 an, .int .i64 (an + n)] 61); have hY := hY.alloc (.cells #[.int .i64 an, .int .i64 (an + n)] 61); have hX := hX.alloc (.cells #[.int .i64 an, .int .i64 (an + n)] 61); have hB := hB.alloc hB.size (.cells #[.int .i64 an, .int .i64 (an + n)] 61); (go_simp; (try go_wp2_with fail)))
                    refine hK.out _ _ ⟨hX.cell (j := 0) rfl, hX.cell (j := 1) rfl⟩ (fun hHeld => ?_)
                    clear hK K
                    try simp only [Act.put, List.setIfInBounds_toArray, List.set_cons_zero, List.set_cons_succ]
                    refine wpAnyH_ready (rs := [3, 13]) (by kernel_rfl) (by simp) ?_
                    refine AllReadyH.cons rfl (fun K hK => ?_) ?_
                    · (refine step_app_atn (base := w.heap.size) encII sl_slcU [((an, an + (n : Int)) : Int × Int)] (by rfl) _ _ (by rfl) (l := (gs.map fun g : Gp => g.1.1)) (by rfl) hP (by rfl) lP.read (by simp) rfl (by simp; omega) (by simp [maxLen]; omega) hB.size ?_; intro A3 c3 u3 h1 hg hb; have hO := hT.grn hg (OwnL.apart hT hP (by decide)); have hY := hY.grn hg (BodyAt.apart hY hP (by decide)); have hX := hX.grn hg (fun a ha => Nat.ne_of_lt (hPlt a ha)); have hB := hB.trans hb; clear hb hg hP hT; have hP := h1; have hT := hO; clear h1 hO)
                      refine hK.out _ _ ⟨hX.cell (j := 0) rfl, hX.cell (j := 1) rfl⟩ (fun hHeld => ?_)
                      clear hK K
                      try simp only [Act.put, List.setIfInBounds_toArray, List.set_cons_zero, List.set_cons_succ]
                      refine wpAnyH_ready (rs := [13]) (by kernel_rfl) (by simp) ?_
                      refine AllReadyH.cons rfl (fun K hK => ?_) ?_
                      · (have lT := own_lit (E := encS) u3 w.heap.size 9 #[S xt] [xt] rfl hB.size (by simp [maxLen]); have hP := hP.alc (.cells #[S xt] 9); have hT := hT.alc (.cells #[S xt] 9); have hY := hY.alloc (.cells #[S xt] 9); have lP := lP.alc (.cells #[S xt] 9); have hX := hX.alloc (.cells #[S xt] 9); have hB := hB.alloc hB.size (.cells #[S xt] 9); (go_simp; (try go_wp2_with fail)))
                        refine hK.out _ _ ⟨hX.cell (j := 0) rfl, hX.cell (j := 1) rfl⟩ (fun hHeld => ?_)
                        clear hK K
                        try simp only [Act.put, List.setIfInBounds_toArray, List.set_cons_zero, List.set_cons_succ]
                        refine wpAnyH_ready (rs := [14]) (by kernel_rfl) (by simp) ?_
                        refine AllReadyH.cons rfl (fun K hK => ?_) ?_
                        · (refine step_app_atn (base := w.heap.size) encS sl_strU [xt] (by rfl) _ _ (by rfl) (l := (gs.map fun g : Gp => g.1.2)) (by rfl) hT (by rfl) lT.read (by simp) rfl (by simp; omega) (by simp [maxLen]; omega) hB.size ?_; intro A14 c14 u14 h1 hg hb; have hO := hP.grn hg (OwnL.apart hP hT (by decide)); have hY := hY.grn hg (BodyAt.apart hY hT (by decide)); have hX := hX.grn hg (BoxAt.apart hT hX (by decide)); have hB := hB.trans hb; clear hb hg hP hT; have hT := h1; have hP := hO; clear h1 hO)
                          refine hK.out _ _ ⟨hX.cell (j := 0) rfl, hX.cell (j := 1) rfl⟩ (fun hHeld => ?_)
                          clear hK K
                          try simp only [Act.put, List.setIfInBounds_toArray, List.set_cons_zero, List.set_cons_succ]
                          refine wpAnyH_ready (rs := [15]) (by kernel_rfl) (by simp) ?_
                          refine AllReadyH.cons rfl (fun K hK => ?_) ?_
                          · (go_simp; (try go_wp2_with fail))
                            refine hK.out _ _ ⟨hX.cell (j := 0) rfl, hX.cell (j := 1) rfl⟩ (fun hHeld => ?_)
                            clear hK K
                            try simp only [Act.put, List.setIfInBounds_toArray, List.set_cons_zero, List.set_cons_succ]
                            refine wpAnyH_ready (rs := [16]) (by kernel_rfl) (by simp) ?_
                            refine AllReadyH.cons rfl (fun K hK => ?_) ?_
                            · (go_simp; (try go_wp2_with fail))
                              refine hK.out _ _ ⟨hX.cell (j := 0) rfl, hX.cell (j := 1) rfl⟩ (fun hHeld => ?_)
                              clear hK K
                              try simp only [Act.put, List.setIfInBounds_toArray, List.set_cons_zero, List.set_cons_succ]
                              refine wpAnyH_done (by kernel_rfl) ?_ _
                              have cx := hX.cell (j := 0) rfl
                              have hgP := BodyAt.apart hY hP (by decide)
                              have hgT := BodyAt.apart hY hT (by decide)
                              go_wp2_with fail
                              refine wp_region_still_tail 12 (by kernel_rfl) (by kernel_rfl) ?_
                              simp only [List.take_succ_cons, List.take_zero, List.drop_succ_cons, List.drop_zero]
                              repeat still_step
                              try refine wpStill_nil ?_
                              change wpList _ _ _ _ _ u14.drew
                              refine wpList_copy_str (e := 5) rfl _ _ _ _ rfl 5 Tryd.underlying67 sizeOf_u8U xt (by rfl) (by rfl) hY.drew (by omega) (by have := hll.out; omega) ?_
                              intro w9 hY9 hs9
                              have hP9 := hs9.own hP.drw hgP
                              have hT9 := hs9.own hT.drw hgT
                              have hB9 := hB.drew.trans (hs9.toBelow hB.size (fun j hj => by omega))
                              clear hP hT hY hX hB cx
                              go_wp2_with fail
                              go_roundw
                              case rel => exact ⟨gs ++ [((((an : Int), (an : Int) + (n : Int)), xt), z2, t2)], r3, A3, c3, A14, c14, by simp, by simp, rfl, by have := hrl3.out; have := Hrl2.out; have := Hql.out; simp; omega, Hstep, by simpa using hP9, by simpa using hT9, by rw [Hlay.out]; exact hY9, hB9⟩
                              case measure =>
                                have := hrl3.out; have := Hrl2.out; have := Hql.out
                                show r3.length < r.length
                                omega
                            exact AllReadyH.nil
                          exact AllReadyH.nil
                        exact AllReadyH.nil
                      exact AllReadyH.nil
                    refine AllReadyH.cons rfl (fun K hK => ?_) ?_
                    · (have lT := own_lit (E := encS) ((w3.alloc (.cells #[.int .i64 an, .int .i64 (an + n)] 61)).drew.alloc (.cells #[.int .i64 an, .int .i64 (an + n)] 61)) w.heap.size 9 #[S xt] [xt] rfl hB.size (by simp [maxLen]); rw [show ((w3.alloc (.cells #[.int .i64 an, .int .i64 (an + n)] 61)).drew.alloc (.cells #[.int .i64 an, .int .i64 (an + n)] 61)).heap.size = w3.heap.size + 1 + 1 from by simp [heap_drew]] at lT; have hP := hP.alc (.cells #[S xt] 9); have hT := hT.alc (.cells #[S xt] 9); have hY := hY.alloc (.cells #[S xt] 9); have lP := lP.alc (.cells #[S xt] 9); have hX := hX.alloc (.cells #[S xt] 9); have hB := hB.alloc hB.size (.cells #[S xt] 9); (go_simp; (try go_wp2_with fail)))
                      refine hK.out _ _ ⟨hX.cell (j := 0) rfl, hX.cell (j := 1) rfl⟩ (fun hHeld => ?_)
                      clear hK K
                      try simp only [Act.put, List.setIfInBounds_toArray, List.set_cons_zero, List.set_cons_succ]
                      refine wpAnyH_ready (rs := [3]) (by kernel_rfl) (by simp) ?_
                      refine AllReadyH.cons rfl (fun K hK => ?_) ?_
                      · (refine step_app_atn (base := w.heap.size) encII sl_slcU [((an, an + (n : Int)) : Int × Int)] (by rfl) _ _ (by rfl) (l := (gs.map fun g : Gp => g.1.1)) (by rfl) hP (by rfl) lP.read (by simp) rfl (by simp; omega) (by simp [maxLen]; omega) hB.size ?_; intro A3 c3 u3 h1 hg hb; have hO := hT.grn hg (OwnL.apart hT hP (by decide)); have hY := hY.grn hg (BodyAt.apart hY hP (by decide)); have lT := lT.grn hg (OwnL.apart lT hP (by decide)); have hX := hX.grn hg (fun a ha => Nat.ne_of_lt (hPlt a ha)); have hB := hB.trans hb; clear hb hg hP hT; have hP := h1; have hT := hO; clear h1 hO)
                        refine hK.out _ _ ⟨hX.cell (j := 0) rfl, hX.cell (j := 1) rfl⟩ (fun hHeld => ?_)
                        clear hK K
                        try simp only [Act.put, List.setIfInBounds_toArray, List.set_cons_zero, List.set_cons_succ]
                        refine wpAnyH_ready (rs := [14]) (by kernel_rfl) (by simp) ?_
                        refine AllReadyH.cons rfl (fun K hK => ?_) ?_
                        · (refine step_app_atn (base := w.heap.size) encS sl_strU [xt] (by rfl) _ _ (by rfl) (l := (gs.map fun g : Gp => g.1.2)) (by rfl) hT (by rfl) lT.read (by simp) rfl (by simp; omega) (by simp [maxLen]; omega) hB.size ?_; intro A14 c14 u14 h1 hg hb; have hO := hP.grn hg (OwnL.apart hP hT (by decide)); have hY := hY.grn hg (BodyAt.apart hY hT (by decide)); have hX := hX.grn hg (BoxAt.apart hT hX (by decide)); have hB := hB.trans hb; clear hb hg hP hT; have hT := h1; have hP := hO; clear h1 hO)
                          refine hK.out _ _ ⟨hX.cell (j := 0) rfl, hX.cell (j := 1) rfl⟩ (fun hHeld => ?_)
                          clear hK K
                          try simp only [Act.put, List.setIfInBounds_toArray, List.set_cons_zero, List.set_cons_succ]
                          refine wpAnyH_ready (rs := [15]) (by kernel_rfl) (by simp) ?_
                          refine AllReadyH.cons rfl (fun K hK => ?_) ?_
                          · (go_simp; (try go_wp2_with fail))
                            refine hK.out _ _ ⟨hX.cell (j := 0) rfl, hX.cell (j := 1) rfl⟩ (fun hHeld => ?_)
                            clear hK K
                            try simp only [Act.put, List.setIfInBounds_toArray, List.set_cons_zero, List.set_cons_succ]
                            refine wpAnyH_ready (rs := [16]) (by kernel_rfl) (by simp) ?_
                            refine AllReadyH.cons rfl (fun K hK => ?_) ?_
                            · (go_simp; (try go_wp2_with fail))
                              refine hK.out _ _ ⟨hX.cell (j := 0) rfl, hX.cell (j := 1) rfl⟩ (fun hHeld => ?_)
                              clear hK K
                              try simp only [Act.put, List.setIfInBounds_toArray, List.set_cons_zero, List.set_cons_succ]
                              refine wpAnyH_done (by kernel_rfl) ?_ _
                              have cx := hX.cell (j := 0) rfl
                              have hgP := BodyAt.apart hY hP (by decide)
                              have hgT := BodyAt.apart hY hT (by decide)
                              go_wp2_with fail
                              refine wp_region_still_tail 12 (by kernel_rfl) (by kernel_rfl) ?_
                              simp only [List.take_succ_cons, List.take_zero, List.drop_succ_cons, List.drop_zero]
                              repeat still_step
                              try refine wpStill_nil ?_
                              change wpList _ _ _ _ _ u14.drew
                              refine wpList_copy_str (e := 5) rfl _ _ _ _ rfl 5 Tryd.underlying67 sizeOf_u8U xt (by rfl) (by rfl) hY.drew (by omega) (by have := hll.out; omega) ?_
                              intro w9 hY9 hs9
                              have hP9 := hs9.own hP.drw hgP
                              have hT9 := hs9.own hT.drw hgT
                              have hB9 := hB.drew.trans (hs9.toBelow hB.size (fun j hj => by omega))
                              clear hP hT hY hX hB cx
                              go_wp2_with fail
                              go_roundw
                              case rel => exact ⟨gs ++ [((((an : Int), (an : Int) + (n : Int)), xt), z2, t2)], r3, A3, c3, A14, c14, by simp, by simp, rfl, by have := hrl3.out; have := Hrl2.out; have := Hql.out; simp; omega, Hstep, by simpa using hP9, by simpa using hT9, by rw [Hlay.out]; exact hY9, hB9⟩
                              case measure =>
                                have := hrl3.out; have := Hrl2.out; have := Hql.out
                                show r3.length < r.length
                                omega
                            exact AllReadyH.nil
                          exact AllReadyH.nil
                        exact AllReadyH.nil
                      exact AllReadyH.nil
                    exact AllReadyH.nil
                  refine AllReadyH.cons rfl (fun K hK => ?_) ?_
                  · (have lT := own_lit (E := encS) (w3.alloc (.cells #[.int .i64 an, .int .i64 (an + n)] 61)).drew w.heap.size 9 #[S xt] [xt] rfl hB.size (by simp [maxLen]); rw [show (w3.alloc (.cells #[.int .i64 an, .int .i64 (an + n)] 61)).drew.heap.size = w3.heap.size + 1 from by simp [heap_drew]] at lT; have hP := hP.alc (.cells #[S xt] 9); have hT := hT.alc (.cells #[S xt] 9); have hY := hY.alloc (.cells #[S xt] 9); have hX := hX.alloc (.cells #[S xt] 9); have hB := hB.alloc hB.size (.cells #[S xt] 9); (go_simp; (try go_wp2_with fail)))
                    refine hK.out _ _ ⟨hX.cell (j := 0) rfl, hX.cell (j := 1) rfl⟩ (fun hHeld => ?_)
                    clear hK K
                    try simp only [Act.put, List.setIfInBounds_toArray, List.set_cons_zero, List.set_cons_succ]
                    refine wpAnyH_ready (rs := [2]) (by kernel_rfl) (by simp) ?_
                    refine AllReadyH.cons rfl (fun K hK => ?_) ?_
                    · (have lP := own_lit (E := encII) ((w3.alloc (.cells #[.int .i64 an, .int .i64 (an + n)] 61)).drew.alloc (.cells #[S xt] 9)) w.heap.size 61 #[.int .i64 an, .int .i64 (an + n)] [((an, an + (n : Int)) : Int × Int)] rfl hB.size (by simp [maxLen]); rw [show ((w3.alloc (.cells #[.int .i64 an, .int .i64 (an + n)] 61)).drew.alloc (.cells #[S xt] 9)).heap.size = w3.heap.size + 1 + 1 from by simp [heap_drew]] at lP; have hP := hP.alc (.cells #[.int .i64 an, .int .i64 (an + n)] 61); have hT := hT.alc (.cells #[.int .i64 an, .int .i64 (an + n)] 61); have hY := hY.alloc (.cells #[.int .i64 an, .int .i64 (an + n)] 61); have lT := lT.alc (.cells #[.int .i64 an, .int .i64 (an + n)] 61); have hX := hX.alloc (.cells #[.int .i64 an, .int .i64 (an + n)] 61); have hB := hB.alloc hB.size (.cells #[.int .i64 an, .int .i64 (an + n)] 61); (go_simp; (try go_wp2_with fail)))
                      refine hK.out _ _ ⟨hX.cell (j := 0) rfl, hX.cell (j := 1) rfl⟩ (fun hHeld => ?_)
                      clear hK K
                      try simp only [Act.put, List.setIfInBounds_toArray, List.set_cons_zero, List.set_cons_succ]
                      refine wpAnyH_ready (rs := [3]) (by kernel_rfl) (by simp) ?_
                      refine AllReadyH.cons rfl (fun K hK => ?_) ?_
                      · (refine step_app_atn (base := w.heap.size) encII sl_slcU [((an, an + (n : Int)) : Int × Int)] (by rfl) _ _ (by rfl) (l := (gs.map fun g : Gp => g.1.1)) (by rfl) hP (by rfl) lP.read (by simp) rfl (by simp; omega) (by simp [maxLen]; omega) hB.size ?_; intro A3 c3 u3 h1 hg hb; have hO := hT.grn hg (OwnL.apart hT hP (by decide)); have hY := hY.grn hg (BodyAt.apart hY hP (by decide)); have lT := lT.grn hg (OwnL.apart lT hP (by decide)); have hX := hX.grn hg (fun a ha => Nat.ne_of_lt (hPlt a ha)); have hB := hB.trans hb; clear hb hg hP hT; have hP := h1; have hT := hO; clear h1 hO)
                        refine hK.out _ _ ⟨hX.cell (j := 0) rfl, hX.cell (j := 1) rfl⟩ (fun hHeld => ?_)
                        clear hK K
                        try simp only [Act.put, List.setIfInBounds_toArray, List.set_cons_zero, List.set_cons_succ]
                        refine wpAnyH_ready (rs := [14]) (by kernel_rfl) (by simp) ?_
                        refine AllReadyH.cons rfl (fun K hK => ?_) ?_
                        · (refine step_app_atn (base := w.heap.size) encS sl_strU [xt] (by rfl) _ _ (by rfl) (l := (gs.map fun g : Gp => g.1.2)) (by rfl) hT (by rfl) lT.read (by simp) rfl (by simp; omega) (by simp [maxLen]; omega) hB.size ?_; intro A14 c14 u14 h1 hg hb; have hO := hP.grn hg (OwnL.apart hP hT (by decide)); have hY := hY.grn hg (BodyAt.apart hY hT (by decide)); have hX := hX.grn hg (BoxAt.apart hT hX (by decide)); have hB := hB.trans hb; clear hb hg hP hT; have hT := h1; have hP := hO; clear h1 hO)
                          refine hK.out _ _ ⟨hX.cell (j := 0) rfl, hX.cell (j := 1) rfl⟩ (fun hHeld => ?_)
                          clear hK K
                          try simp only [Act.put, List.setIfInBounds_toArray, List.set_cons_zero, List.set_cons_succ]
                          refine wpAnyH_ready (rs := [15]) (by kernel_rfl) (by simp) ?_
                          refine AllReadyH.cons rfl (fun K hK => ?_) ?_
                          · (go_simp; (try go_wp2_with fail))
                            refine hK.out _ _ ⟨hX.cell (j := 0) rfl, hX.cell (j := 1) rfl⟩ (fun hHeld => ?_)
                            clear hK K
                            try simp only [Act.put, List.setIfInBounds_toArray, List.set_cons_zero, List.set_cons_succ]
                            refine wpAnyH_ready (rs := [16]) (by kernel_rfl) (by simp) ?_
                            refine AllReadyH.cons rfl (fun K hK => ?_) ?_
                            · (go_simp; (try go_wp2_with fail))
                              refine hK.out _ _ ⟨hX.cell (j := 0) rfl, hX.cell (j := 1) rfl⟩ (fun hHeld => ?_)
                              clear hK K
                              try simp only [Act.put, List.setIfInBounds_toArray, List.set_cons_zero, List.set_cons_succ]
                              refine wpAnyH_done (by kernel_rfl) ?_ _
                              have cx := hX.cell (j := 0) rfl
                              have hgP := BodyAt.apart hY hP (by decide)
                              have hgT := BodyAt.apart hY hT (by decide)
                              go_wp2_with fail
                              refine wp_region_still_tail 12 (by kernel_rfl) (by kernel_rfl) ?_
                              simp only [List.take_succ_cons, List.take_zero, List.drop_succ_cons, List.drop_zero]
                              repeat still_step
                              try refine wpStill_nil ?_
                              change wpList _ _ _ _ _ u14.drew
                              refine wpList_copy_str (e := 5) rfl _ _ _ _ rfl 5 Tryd.underlying67 sizeOf_u8U xt (by rfl) (by rfl) hY.drew (by omega) (by have := hll.out; omega) ?_
                              intro w9 hY9 hs9
                              have hP9 := hs9.own hP.drw hgP
                              have hT9 := hs9.own hT.drw hgT
                              have hB9 := hB.drew.trans (hs9.toBelow hB.size (fun j hj => by omega))
                              clear hP hT hY hX hB cx
                              go_wp2_with fail
                              go_roundw
                              case rel => exact ⟨gs ++ [((((an : Int), (an : Int) + (n : Int)), xt), z2, t2)], r3, A3, c3, A14, c14, by simp, by simp, rfl, by have := hrl3.out; have := Hrl2.out; have := Hql.out; simp; omega, Hstep, by simpa using hP9, by simpa using hT9, by rw [Hlay.out]; exact hY9, hB9⟩
                              case measure =>
                                have := hrl3.out; have := Hrl2.out; have := Hql.out
                                show r3.length < r.length
                                omega
                            exact AllReadyH.nil
                          exact AllReadyH.nil
                        exact AllReadyH.nil
                      exact AllReadyH.nil
                    exact AllReadyH.nil
                  exact AllReadyH.nil
                · have HnoN := Lib.hid (show ¬ ((isTok bd && decide (bd.length ≤ 30)) = true ∧ ∃ l, UnbOK bd zn s l) from fun ⟨_, l, hl⟩ => by
                    obtain ⟨a1, b1, x, r', ho, e1, e2⟩ := Hrd2.out l hl
                    obtain ⟨q1, q2, q3⟩ := ct_unique hc (show isCt a1 b1 zn told from ⟨ho.1, e1.symm⟩)
                    have g := good_all ho
                    simp only at g
                    apply hgo
                    have h4 := Hrl2.out
                    have h5 := congrArg List.length e2
                    simp only [List.length_append, List.length_cons, List.length_nil] at h5
                    exact ⟨by omega, by omega⟩)
                  have hgo2 : q.length < i + 6 + n ∨ (i + 6 + n ≤ q.length ∧ (zn : Int) < a + n) := by omega
                  clear hgo
                  rcases hgo2 with hg | ⟨hg, hg2⟩
                  · go_wp2_with fail
                    refine (hno _).mono ?_
                    rintro e w' ⟨rfl, rfl⟩
                    go_wp2_with fail
                    go_ret3
                    exact ret_no rfl HnoN.out hB2
                  · go_wp2_with fail
                    refine (hno _).mono ?_
                    rintro e w' ⟨rfl, rfl⟩
                    go_wp2_with fail
                    go_ret3
                    exact ret_no rfl HnoN.out hB2
              · have HnoN := Lib.hid (show ¬ ((isTok bd && decide (bd.length ≤ 30)) = true ∧ ∃ l, UnbOK bd zn s l) from fun ⟨_, l, hl⟩ => by
                  obtain ⟨a, b, x, r', ho, e1, _⟩ := Hrd2.out l hl
                  exact hno2 a b zn ⟨ho.1, e1.symm⟩)
                have hB1 := hbel.trans (hb3.mono hbel.size)
                have hB2 := hB1.alloc hB1.size (.cells #[.int .i64 0, .int .i64 0] 61)
                go_wp2_with fail
                refine (hno _).mono ?_
                rintro e w' ⟨rfl, rfl⟩
                go_wp2_with fail
                go_ret3
                exact ret_no rfl HnoN.out hB2
      · rw [show (decide (z < 1) || decide ((99999 : Int) < z)) = true from by simp; omega] at hou
        have Hz := Lib.hid hz
        clear hz
        go_enter Tryd.func29, Tryd.ntmps29
        go_wp2_with (first
          | (go_at_call 56; refine (hib _).mono ?_; rintro e w' ⟨rfl, rfl⟩)
          | (go_at_call 42; refine (hou _).mono ?_; rintro e w' ⟨rfl, rfl⟩))
        refine (hno _).mono ?_
        rintro e w' ⟨rfl, rfl⟩
        go_wp2_with fail
        go_ret3
        exact ret_no rfl (fun ⟨_, l, h⟩ => Hz.out (unbOK_z h)) (Below.refl _ _)
    · have Hbd := Lib.hid hb30
      go_enter Tryd.func29, Tryd.ntmps29
      go_wp2_with (go_at_call 56; refine (hib _).mono ?_; rintro e w' ⟨rfl, rfl⟩)
      refine (hno _).mono ?_
      rintro e w' ⟨rfl, rfl⟩
      go_wp2_with fail
      go_ret3
      exact ret_no rfl (fun h => by simp at h; exact Hbd.out h.1.2) (Below.refl _ _)
end Go.Proofs.YtgjikbhehijnaaaDoor
