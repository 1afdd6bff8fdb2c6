/- WDk0, WDkN, WDkU -/
import Derived.Test.YtemjoiaapfhenaaGreatDoorGd01
import Derived.Test.YtemjoiaapfhenaaGreatDoorGd05
import Derived.Test.YtemjoiaapfhenaaGreatDoorGd18
import Derived.Test.YtemjoiaapfhenaaGreatDoorGd02
import Derived.Test.YtemjoiaapfhenaaGreatDoorGd03
import Derived.Test.YtemjoiaapfhenaaGreatDoorGd00
import Derived.Deep.RegionWith
import Derived.Shelf.LaysM
import Derived.Shelf.Strconv.Itoa1
import Derived.Shelf.Strconv.Itoa2
import Derived.Lib.Walk
import Derived.Lib.ItoaMem

/- WDk0 -/
section
namespace Go.Proofs.YtemjoiaapfhenaaGreatDoor
open Go.RowKit Go.Larder
set_option linter.unusedVariables false
set_option linter.unusedSimpArgs false
abbrev wd_quote : Txd := [113, 117, 111, 116, 101]
abbrev wd_unquote : Txd := [117, 110, 113, 117, 111, 116, 101]
abbrev wd_split : Txd := [115, 112, 108, 105, 116]
abbrev wd_date : Txd := [100, 97, 116, 101]
abbrev wd_time : Txd := [116, 105, 109, 101]
abbrev wd_normal : Txd := [110, 111, 114, 109, 97, 108]
abbrev wd_control : Txd := [99, 111, 110, 116, 114, 111, 108]
abbrev wd_tag : Txd := [116, 97, 103]
abbrev wd_range : Txd := [114, 97, 110, 103, 101]
abbrev wd_cut : Txd := [99, 117, 116]
abbrev wd_sum : Txd := [115, 117, 109]
abbrev wd_crc : Txd := [99, 114, 99]
noncomputable def quoteD (l : List Txd) : Except Int Txd := match l with
  | [s] => quoE s
  | _ => .error 3
noncomputable def unquoteD (l : List Txd) : Except Int Txd := match l with
  | [s] => pairE (unqAll s).1 (unqAll s).2
  | _ => .error 3
noncomputable def splitD (l : List Txd) : Except Int Txd := match l with
  | [s] => bindE (splitE s) fun l => .ok (listL (sizesL l))
  | _ => .error 3
noncomputable def dateD (l : List Txd) : Except Int Txd := match l with
  | [s] => bindE (numE s) dprE
  | _ => .error 3
noncomputable def timeD (l : List Txd) : Except Int Txd := match l with
  | [s] => pairE (itL (dtE s).1.toNat) (errI (dtE s).2)
  | _ => .error 3
noncomputable def normalD (l : List Txd) : Except Int Txd := match l with
  | [s] => nrmE s
  | _ => .error 3
noncomputable def controlD (l : List Txd) : Except Int Txd := match l with
  | [s] => bindE (ctlE s) cpE
  | _ => .error 3
noncomputable def tagD (l : List Txd) : Except Int Txd := match l with
  | [s] => tagT s
  | _ => .error 3
noncomputable def rangeD (l : List Txd) : Except Int Txd := match l with
  | [s, t] => rangeE s t
  | _ => .error 3
noncomputable def cutD (l : List Txd) : Except Int Txd := match l with
  | [s] => .ok (listL (sizesL (cutC s)))
  | _ => .error 3
noncomputable def sumD (l : List Txd) : Except Int Txd := match l with
  | [s] => .ok (hexL (digL s))
  | _ => .error 3
noncomputable def crcD (l : List Txd) : Except Int Txd := match l with
  | [s] => .ok (itL (crc s))
  | _ => .error 3
noncomputable def deskE (w : Txd) (l : List Txd) : Except Int Txd :=
  if w = wd_quote then quoteD l else
  if w = wd_unquote then unquoteD l else
  if w = wd_split then splitD l else
  if w = wd_date then dateD l else
  if w = wd_time then timeD l else
  if w = wd_normal then normalD l else
  if w = wd_control then controlD l else
  if w = wd_tag then tagD l else
  if w = wd_range then rangeD l else
  if w = wd_cut then cutD l else
  if w = wd_sum then sumD l else
  if w = wd_crc then crcD l else
  .error 3
abbrev errT : Txd := [101, 114, 114, 111, 114, 32]
def shownE (E : Except Int Txd) : Txd := match E with
  | .ok t => t
  | .error n => errT ++ itL n.toNat
/-- the answer to a line -/
noncomputable def answD (s : Txd) : Txd := shownE (deskE ((spl 38 s).headD []) (spl 38 s).tail)
end Go.Proofs.YtemjoiaapfhenaaGreatDoor
end

/- WDkN -/
section
namespace Go.Proofs.YtemjoiaapfhenaaGreatDoor
open Go.RowKit Go.Larder
set_option linter.unusedVariables false
set_option linter.unusedSimpArgs false
theorem sl_strDk : SlT Tryz.prog 22 9 1 16 := SlT.mk' (z := .string ByteArray.empty) Tryz.underlying22 (by kernel_rfl) rfl
theorem w_dlist (l : List Txd) (A : Option Addr) (c : Nat) (w : World) (hr : ReadL encS w w.heap.size A l) (hl : l.length ≤ 5000) (hs : ∀ x ∈ l, x.length ≤ 1000) (hc : l.length ≤ c) :
    Calls Tryz.prog 107 #[.slice A l.length c] w fun e w' => e = .returned (S (listL l)) ∧ Below w.heap.size w w' := by
  unfold listL
  by_cases h0 : l.length = 0
  · rw [if_pos h0]
    obtain rfl : l = [] := List.eq_nil_of_length_eq_zero h0
    go_enter Tryz.func107, Tryz.ntmps107
    go_wp2_with fail
    go_ret
    exact ⟨rfl, Below.refl _ _⟩
  · rw [if_neg h0]
    have hE : ((l.length : Int) == 0) = false := by simp only [beq_eq_false_iff_ne]; omega
    have hj : (Lib.join l [32]).length ≤ 140737488355328 := by
      have := join_lenG [32] 1000 l hs
      simp only [List.length_cons, List.length_nil] at this
      omega
    go_enter Tryz.func107, Tryz.ntmps107
    go_wp2_with (go_at_call 75; refine (w_Join l [32] A c _ _ hr (Nat.le_refl _) hc (by omega) hj).mono ?_; rintro e w2 ⟨rfl, hb2⟩)
    go_ret
    exact ⟨rfl, hb2⟩
theorem sizes_snoc {l : List Txd} {k : Nat} {x : Txd} (h : l[k]? = some x) : sizesL (l.take (k + 1)) = sizesL (l.take k) ++ [itL x.length] := by
  unfold sizesL; rw [List.take_add_one, h]; simp
theorem sizes_len {l : List Txd} (hs : ∀ x ∈ l, x.length ≤ 5000) : ∀ x ∈ sizesL l, x.length ≤ 1000 := fun x hx => by
  obtain ⟨y, hy, rfl⟩ := List.mem_map.1 hx
  have := hs y hy
  have := itL_len (n := y.length) (by omega)
  omega
set_option maxHeartbeats 4000000 in
theorem w_dsizes (l : List Txd) (hl : l.length ≤ 5000) (hs : ∀ x ∈ l, x.length ≤ 5000) (A : Option Addr) (c : Nat) (w : World) (hr : ReadL encS w w.heap.size A l) (hP : PW w) :
    Calls Tryz.prog 46 #[.slice A l.length c] w fun e w' => e = .returned (S (listL (sizesL l))) ∧ Below w.heap.size w w' := by
  go_enter Tryz.func46, Tryz.ntmps46
  go_wp2_with fail
  go_loopw [3, 8] (fun o i' wr => ∃ (k : Nat) (out : List Txd) (A2 : Option Addr) (c2 : Nat), i' = .int .i64 k ∧ o = .slice A2 out.length c2 ∧ k ≤ l.length ∧ out.length ≤ k ∧ OwnL encS wr w.heap.size 9 A2 c2 out ∧ Below w.heap.size w wr ∧ Hid (out = sizesL (l.take k))) (fun _ i' _ => l.length - (intOf i').toNat)
  case atStart => exact ⟨0, [], none, 0, rfl, rfl, by omega, by simp, OwnL.nil _ _ _, Below.refl _ _, Lib.hid rfl⟩
  case round =>
    obtain ⟨k, out, A2, c2, rfl, rfl, hk, hok, hown, hbel, Ho⟩ := hrel
    have hbs := hbel.size
    have hPr := hP.keep hbel
    by_cases hlt : k < l.length
    · obtain ⟨x, hx, _⟩ := drop_step hlt
      have hx5 := hs x (List.mem_of_getElem? hx)
      obtain ⟨g, off, rfl, hgb, hc0⟩ := (hr.below hbel (Nat.le_refl _)).at_S hx
      have Hsn := Lib.hid (sizes_snoc hx)
      have hit := fun W hW => w_Itoa (x.length : Int) (by omega) W hW
      rw [itoa_nn (by omega : (0 : Int) ≤ x.length)] at hit
      simp only [Int.toNat_natCast] at hit
      have hi20 := itL_len (n := x.length) (by omega)
      have hit2 : ∀ W, PW W → Calls Tryz.prog 12 #[.int .i64 (x.length : Int)] W fun e w' => e = .returned (S (itL x.length)) ∧ Below W.heap.size W w' := hit
      clear hit hx
      generalize itL x.length = I at *
      go_wp2_with (first
        | (go_at_call 12; refine (hit2 _ hPr).mono ?_; rintro e w2 ⟨rfl, hb2⟩; have hB2 := hbel.trans (hb2.mono hbs); have hown2 := hown.below hb2 (Nat.le_refl _))
        | (at_builtin; refine wpList_app encS sl_strDk [_] rfl _ _ rfl rfl hown2 #[S _] rfl 0 rfl (by first | rfl | (simp [go_sem]; done)) (by omega) (by simp only [maxLen]; omega) hB2.size ?_; intro g' c'' w5 hown5 hg5 hb5 hbg))
      go_roundw
      case rel => exact ⟨k + 1, _, _, _, by go_num, by simp, by omega, by simp; omega, hown5, hB2.trans hb5, Lib.hid (by rw [Hsn.out, ← Ho.out])⟩
      case measure => simp [intOf]; omega
    · obtain rfl : k = l.length := by omega
      have ho := Ho.out
      rw [List.take_length] at ho
      have hrd := hown.read
      have hcap := hown.le_cap
      have hli := w_dlist out A2 c2 wr hrd (by omega) (by rw [ho]; exact sizes_len hs) hcap
      rw [ho] at hli
      have hol : out.length = (sizesL l).length := by rw [ho]
      rw [← hol] at hli
      clear ho hol
      go_wp2_with (go_at_call 107; refine hli.mono ?_; rintro e w2 ⟨rfl, hb2⟩)
      go_ret
      exact ⟨rfl, hbel.trans (hb2.mono hbs)⟩
/-- what desk.number answers -/
def NumD (w : World) (E : Except Int Int) (e : Ending) (w' : World) : Prop := (match E with
  | .ok v => e = .returned (.int .i64 v)
  | .error n => e = panE n ∧ ¬ n = 0) ∧ Below w.heap.size w w'
theorem NumD.er {w w' : World} {E : Except Int Int} {n : Int} {e : Ending} (hE : E = .error n) (h : NumD w E e w') : e = panE n ∧ ¬ n = 0 ∧ Below w.heap.size w w' := by subst hE; exact ⟨h.1.1, h.1.2, h.2⟩
theorem NumD.ok {w w' : World} {E : Except Int Int} {v : Int} {e : Ending} (hE : E = .ok v) (h : NumD w E e w') : e = .returned (.int .i64 v) ∧ Below w.heap.size w w' := by subst hE; exact h
set_option maxHeartbeats 2000000 in
theorem w_dnum (s : Txd) (hl : s.length ≤ 140737488351232) (w : World) (hE : EV w) (hP : PW w) :
    Calls Tryz.prog 49 #[S s] w (NumD w (numE s)) := by
  have hat := w_Atoi s (by omega) w hE
  have hf := fun W => w_dfailsN 3 (by decide) W
  obtain ⟨R, hR⟩ : ∃ R, numE s = R := ⟨_, rfl⟩
  rw [hR]
  have HR := Lib.hid hR
  clear hR
  go_enter Tryz.func49, Tryz.ntmps49
  go_wp2_with fail
  refine hat.mono ?_
  rintro e w1 ⟨ho, hb1⟩
  have hP1 := hP.keep hb1
  rcases ho with ⟨v, hv, rfl⟩ | ⟨v, t, p, hv0, hno, rfl⟩
  · obtain ⟨hv0, hv1⟩ := Lib.atoiAll_bounds hv
    have Hv := Lib.hid hv
    clear hv
    by_cases h18 : (18 : Int) < (s.length : Int)
    · have Hq := Lib.hid (show R = .error 3 from by rw [← HR.out]; exact numE_no fun u _ h _ => by omega)
      clear HR
      go_wp2_with (go_at_call 14; refine (hf _).mono ?_; rintro e w2 ⟨rfl, rfl⟩)
      rw [Hq.out]
      exact ⟨rfl, ⟨rfl, by decide⟩, hb1⟩
    · by_cases hneg : v < 0
      · have Hq := Lib.hid (show R = .error 3 from by
          rw [← HR.out]
          refine numE_no fun u hu h h0 => ?_
          rw [Hv.out] at hu
          injection hu with hu
          omega)
        clear HR
        go_wp2_with (go_at_call 14; refine (hf _).mono ?_; rintro e w2 ⟨rfl, rfl⟩)
        rw [Hq.out]
        exact ⟨rfl, ⟨rfl, by decide⟩, hb1⟩
      · have hit := fun W hW => w_Itoa v (by omega) W hW
        rw [itoa_nn (by omega)] at hit
        have hit2 : ∀ W, PW W → Calls Tryz.prog 12 #[.int .i64 v] W fun e w' => e = .returned (S (itL v.toNat)) ∧ Below W.heap.size W w' := hit
        clear hit
        cases hc : (itL v.toNat == s)
        · have hne : itL v.toNat ≠ s := by simpa using hc
          have Hq := Lib.hid (show R = .error 3 from by
            rw [← HR.out]
            refine numE_no fun u hu h h0 => ?_
            rw [Hv.out] at hu
            injection hu with hu
            subst hu
            exact hne)
          clear HR hne
          generalize itL v.toNat = D at *
          go_wp2_with (first
            | (go_at_call 12; refine (hit2 _ hP1).mono ?_; rintro e w2 ⟨rfl, hb2⟩)
            | (go_at_call 14; refine (hf _).mono ?_; rintro e w3 ⟨rfl, rfl⟩))
          rw [Hq.out]
          exact ⟨rfl, ⟨rfl, by decide⟩, hb1.trans (hb2.mono hb1.size)⟩
        · have heq : itL v.toNat = s := by simpa using hc
          have Hq := Lib.hid (show R = .ok v from by rw [← HR.out]; exact numE_yes (by omega) (by omega) heq)
          clear HR heq
          generalize itL v.toNat = D at *
          go_wp2_with (go_at_call 12; refine (hit2 _ hP1).mono ?_; rintro e w2 ⟨rfl, hb2⟩)
          go_ret
          rw [Hq.out]
          exact ⟨rfl, hb1.trans (hb2.mono hb1.size)⟩
  · have Hq := Lib.hid (show R = .error 3 from by rw [← HR.out]; exact numE_no fun u hu _ _ => absurd hu (hno u))
    clear HR hno
    go_wp2_with (go_at_call 14; refine (hf _).mono ?_; rintro e w2 ⟨rfl, rfl⟩)
    rw [Hq.out]
    exact ⟨rfl, ⟨rfl, by decide⟩, hb1⟩
end Go.Proofs.YtemjoiaapfhenaaGreatDoor
end

/- WDkU -/
section
namespace Go.Proofs.YtemjoiaapfhenaaGreatDoor
open Go.RowKit Go.Larder Go.Shelf Go.Sort
set_option linter.unusedVariables false
set_option linter.unusedSimpArgs false
abbrev byV : UInt8 → Value := fun b => .int .u8 (b.toNat : Int)
set_option maxHeartbeats 4000000 in
set_option maxRecDepth 100000 in
theorem w_FmtUi (u : Nat) (hu64 : u < 18446744073709551616) (w : World) (hP : PW w) :
    Calls Tryz.prog 131 #[.int .u64 (u : Int), .int .i64 10] w fun e w' => e = .returned (S (Lib.decDigits u)) ∧ Below w.heap.size w w' := by
  by_cases hs : u < 100
  · have hsm : ∀ W, Calls Tryz.prog 158 #[.int .i64 (u : Int)] W fun e w' => e = .returned (.string ⟨(Lib.decDigits u).toArray⟩) ∧ w' = W := fun W => Any.internal_strconv_small { Tryz.laysM171 with } u hs W
    have hsi : (u : Int) < 100 := by omega
    go_enter Tryz.func131, Tryz.ntmps131
    go_wp2_with (go_at_call 158; refine (hsm _).mono ?_; rintro e w1 ⟨rfl, rfl⟩)
    go_ret
    exact ⟨rfl, Below.refl _ _⟩
  · have hsi : ¬ (u : Int) < 100 := by omega
    have hu1 : 1 ≤ u := by omega
    have hnd20 : Lib.nDigits u ≤ 20 := by have := Lib.numDigits_eq u hu1 hu64; split at this <;> omega
    have hal : (Tryz.prog).arrayLen 162 = 24 := by kernel_rfl
    have hsl1 : ∀ W, (Instr.sliceAt 162 (.pointer (some ⟨w.heap.size, 0, none⟩)) none (some (.int .i64 (Lib.nDigits u : Int))) none).run Tryz.prog W = .ok (.slice (some ⟨w.heap.size, 0, none⟩) (Lib.nDigits u) 24) W := fun W => by
      rw [run_sliceAt_array_h W 162 ⟨w.heap.size, 0, none⟩ (by kernel_rfl) .i64 (Lib.nDigits u : Int) (by omega) (by rw [hal]; omega)]
      go_simp
    have hH0 : Holds byV (w.alloc (.cells Lib.zeros24 162)) w.heap.size 0 (Array.replicate (Lib.nDigits u) (0 : UInt8)) := fun j hj => by
      have hj' : j < Lib.nDigits u := by simpa using hj
      refine ⟨?_, World.frozen?_alloc_new _ _ _ _⟩
      rw [World.cell?_alloc_new, Lib.zeros24_at _ (by omega), getElem!_pos _ j hj]
      simp
    have hfmt : Calls Tryz.prog 160 #[.slice (some ⟨w.heap.size, 0, none⟩) (Array.replicate (Lib.nDigits u) (0 : UInt8)).size 24, .int .u64 (u : Int)] (w.alloc (.cells Lib.zeros24 162)) _ := Any.internal_strconv_formatBase10 { Tryz.laysM171 with } w.heap.size 0 24 u (Array.replicate (Lib.nDigits u) 0) (w.alloc (.cells Lib.zeros24 162)) hH0 (by rw [Array.size_replicate]; exact Lib.lt_pow_nDigits u) hu64 (by rw [Array.size_replicate]; omega)
    have hnum : ∀ W, PW W → Calls Tryz.prog 159 #[.int .u64 (u : Int)] W fun e w' => e = .returned (.int .i64 (Lib.nDigits u)) ∧ w' = W := fun W hW => Any.internal_strconv_numDigits { Tryz.laysM171 with } u hu1 hu64 W hW
    rw [Array.size_replicate] at hfmt
    have HH0 := Lib.hid hH0
    have hB0 : Below w.heap.size w (w.alloc (.cells Lib.zeros24 162)) := (Below.refl _ _).alloc (Nat.le_refl _) _
    clear hH0 hal
    go_enter Tryz.func131, Tryz.ntmps131
    go_wp2_with (go_at_call 159; refine (hnum _ (hP.keep hB0)).mono ?_; rintro e w1 ⟨rfl, rfl⟩)
    refine hfmt.mono ?_
    rintro e w1 ⟨rfl, k, v', dk, rfl, hF⟩
    have hcv : (convert 112 9 (.slice (some ⟨w.heap.size, 0, none⟩) (Lib.nDigits u) 24)).run Tryz.prog ((putRow byV (w.alloc (.cells Lib.zeros24 162)) w.heap.size 0 dk).drewN k) = .ok (.string ⟨(Lib.decDigits u).toArray⟩) ((putRow byV (w.alloc (.cells Lib.zeros24 162)) w.heap.size 0 dk).drewN k) := by
      have h := run_convert_bytes_back (P := Tryz.prog) ((putRow byV (w.alloc (.cells Lib.zeros24 162)) w.heap.size 0 dk).drewN k) 112 9 5 ⟨w.heap.size, 0, none⟩ 24 (Lib.decDigits u) Tryz.underlying112 Tryz.underlying5 Tryz.underlying9 (fun j hj => by
        rw [Lib.row_is_numeral hF j hj, Lib.add_plain, World.cell?_drewN]
        exact cell?_putRow byV _ w.heap.size 0 _ dk HH0.out (by rw [hF.size, Array.size_replicate]) j (by rw [hF.size]; rw [Lib.decDigits_length] at hj; exact hj))
      rw [Lib.decDigits_length] at h
      exact h
    have hBk : Below w.heap.size w ((putRow byV (w.alloc (.cells Lib.zeros24 162)) w.heap.size 0 dk).drewN k) := by
      rw [alloc_eq_grow]
      obtain ⟨os', _, e⟩ := putRow_grow_new byV w #[.cells Lib.zeros24 162] w.heap.size 0 dk (Nat.le_refl _)
      rw [e]
      have := grow_blw w.heap.size w 0 os' (Nat.le_refl _)
      rw [World.drewN_zero] at this
      exact ⟨this.os, this.tape, this.output, this.size, this.block⟩
    go_wp2
    go_ret
    exact ⟨rfl, hBk⟩
theorem w_FmtU (u : Nat) (hu64 : u < 18446744073709551616) (w : World) (hP : PW w) :
    Calls Tryz.prog 67 #[.int .u64 (u : Int), .int .i64 10] w fun e w' => e = .returned (S (Lib.decDigits u)) ∧ Below w.heap.size w w' := by
  have hi := w_FmtUi u hu64
  go_enter Tryz.func67, Tryz.ntmps67
  go_wp2_with (go_at_call 131; refine (hi _ hP).mono ?_; rintro e w1 ⟨rfl, hb1⟩)
  go_ret
  exact ⟨rfl, hb1⟩
end Go.Proofs.YtemjoiaapfhenaaGreatDoor
end
