/- WItoa, WDgO, WLib, WRep, WDk1, WRef0, WLow, WNamed, WJoin, WStr, Open, EncD, WPlainR, WCrc, WDk3, WHexR, WEq -/
import Derived.Test.YtemjoiaapfhenaaGreatDoorChecked
import Derived.Test.YtemjoiaapfhenaaGreatDoorGd00
import Derived.Test.YtemjoiaapfhenaaGreatDoorShelf
import Derived.Lib.LaidTab
import Derived.Lib.ItoaLen
import Derived.Stop.LaidErr
import Derived.MakeChecks
import Derived.Deep.CutBlock
import Derived.Deep.RegionWith
import Derived.Lib.Builder
import Derived.Deep.QuietTactic
import Derived.BigQuiet
import Derived.Test.YtemjoiaapfhenaaGreatDoorRows
import Derived.Deep.Strs
import Derived.Test.YtemjoiaapfhenaaGreatDoorGd01

/- WItoa -/
section
namespace Go.Proofs.YtemjoiaapfhenaaGreatDoor
open Go.RowKit Go.Larder
set_option linter.unusedVariables false
set_option linter.unusedSimpArgs false

/-- The library's table of powers of ten. -/
def PW (w : World) : Prop := Lib.TabIs Tryz.prog w "internal/strconv.uint64pow10" .u64 Lib.pow10Tab
theorem PW.keep {w w' : World} (h : PW w) (hb : Below w.heap.size w w') : PW w' := by
  unfold PW Lib.TabIs World.var? at h ⊢
  cases hg : (Tryz.prog).globalNamed "internal/strconv.uint64pow10" with
  | none => rw [hg] at h; cases h
  | some g =>
    rw [hg] at h
    simp only [Option.bind_some] at h ⊢
    have hlt : g < w.heap.size := by
      rcases Nat.lt_or_ge g w.heap.size with h' | h'
      · exact h'
      · rw [Array.getElem?_eq_none h'] at h; cases h
    rw [hb.block g hlt]
    exact h
theorem PW.drew {w : World} (h : PW w) : PW w.drew := h
theorem PW.laid {l : List (String × DataW Unit)} {w : World} (hp : (l.all fun x => x.2.handleName?.isNone) = true) (h : laidMetH Tryz.prog l w) (n : Nat) (hn : l[n]? = some ("internal/strconv.uint64pow10", Lib.tabData .u64 Lib.pow10Tab)) : PW w := by
  rw [MakeChecks.laidMetH_plain _ _ _ hp] at h
  clear hp
  induction l generalizing n with
  | nil => cases hn
  | cons x l ih =>
    cases n with
    | zero =>
      have hx : x = ("internal/strconv.uint64pow10", Lib.tabData .u64 Lib.pow10Tab) := by simpa using hn
      subst hx
      exact Lib.tabIs_of_head (g := 3) (t := 199) (e := 75) (n := 20) (by kernel_rfl) (by kernel_rfl) Tryz.underlying199 Tryz.underlying75 (by kernel_rfl) (by kernel_rfl) h
    | succ n => exact ih h.tail n (by simpa using hn)

theorem grow_blw (B : Nat) (w : World) (q : Nat) (os : Array Obj) (hB : B ≤ w.heap.size) : Below B w (Go.Sort.grow (w.drewN q) os) :=
  ⟨rfl, rfl, rfl, by first | (simp [Go.Sort.grow]; done) | (simp [Go.Sort.grow]; omega), fun i hi => by
    show ((w.drewN q).heap ++ os)[i]? = _
    rw [Array.getElem?_append_left (by show i < w.heap.size; omega)]
    rfl⟩

theorem w_Itoa (n : Int) (h : -9223372036854775808 ≤ n ∧ n ≤ 9223372036854775807) (w : World) (hP : PW w) :
    Calls Tryz.prog 12 #[.int .i64 n] w fun e w' => e = .returned (S (Lib.itoa n)) ∧ Below w.heap.size w w' := by
  refine (Tryz.strconv_Itoa n h.1 h.2 w hP).mono ?_
  rintro e w' ⟨he, k, os, rfl⟩
  exact ⟨he, grow_blw _ _ _ _ (Nat.le_refl _)⟩
theorem itoa_nn {n : Int} (h : 0 ≤ n) : Lib.itoa n = Lib.decDigits n.toNat := by unfold Lib.itoa; rw [if_neg (by omega)]

theorem dig_len {n : Int} (h0 : 0 ≤ n) (h1 : n ≤ 9223372036854775807) : (Lib.decDigits n.toNat).length ≤ 21 := by
  have := Lib.itoa_length_le n (by omega) h1
  rwa [itoa_nn h0] at this
theorem c1_chr (n : Int) (h : 0 ≤ n ∧ n < 256) (w : World) :
    Calls Tryz.prog 36 #[.int .i64 n] w fun e w' => e = .returned (S [UInt8.ofNat n.toNat]) ∧ Below w.heap.size w w' := by
  have hw : IntKind.u8.wrap n = n := by simp [IntKind.wrap, IntKind.bits, IntKind.signed]; omega
  have hs := fun w => run_lit_str (P := Tryz.prog) 112 9 Tryz.underlying112 Tryz.underlying5 Tryz.underlying9 w [n] #[.int .u8 n] rfl 1 1 rfl w.heap.size rfl
  simp only [List.map_cons, List.map_nil] at hs
  obtain ⟨h1, h2⟩ := h
  go_enter Tryz.func36, Tryz.ntmps36
  go_wp2_with fail
  go_ret
  exact ⟨rfl, (Below.refl _ _).alloc (Nat.le_refl _) _⟩
set_option maxHeartbeats 1000000 in
theorem w_Digits : ∀ (k : Nat) (n : Int), 0 ≤ n → n ≤ 9000000000000000000 → n.toNat < k → ∀ (w : World),
    Calls Tryz.prog 10 #[.int .i64 n] w fun e w' => e = .returned (S (Lib.decDigits n.toNat)) ∧ Below w.heap.size w w'
  | 0, n, _, _, hk, w => by omega
  | k + 1, n, h0, h1, hk, w => by
    by_cases h : n < 10
    · have hd : Lib.decDigits n.toNat = [UInt8.ofNat (48 + n).toNat] := by rw [Lib.decDigits, dif_pos (by omega)]; congr 2; omega
      rw [hd]
      clear hd
      go_enter Tryz.func10, Tryz.ntmps10
      go_wp2_with (go_at_call 36; refine Calls.mono (c1_chr _ ?_ _) ?_; omega; rintro e w1 ⟨rfl, hb1⟩)
      go_ret
      exact ⟨rfl, hb1⟩
    · have hd : Lib.decDigits n.toNat = Lib.decDigits (n / 10).toNat ++ [UInt8.ofNat (48 + n % 10).toNat] := by
        rw [Lib.decDigits, dif_neg (by omega)]
        congr 3 <;> omega
      have hdl := dig_len (n := n / 10) (by omega) (by omega)
      have ih := fun w => w_Digits k (n / 10) (by omega) (by omega) (by omega) w
      rw [hd]
      clear hd
      go_enter Tryz.func10, Tryz.ntmps10
      go_wp2_with (first
        | (go_at_call 10; refine (ih _).mono ?_; rintro e w1 ⟨rfl, hb1⟩)
        | (go_at_call 36; refine Calls.mono (c1_chr _ ?_ _) ?_; omega; rintro e w2 ⟨rfl, hb2⟩))
      go_ret
      exact ⟨by simp, hb1.trans (hb2.mono hb1.size)⟩
theorem w_Dig (n : Int) (h0 : 0 ≤ n) (h1 : n ≤ 9000000000000000000) (w : World) :
    Calls Tryz.prog 10 #[.int .i64 n] w fun e w' => e = .returned (S (Lib.decDigits n.toNat)) ∧ Below w.heap.size w w' :=
  w_Digits (n.toNat + 1) n h0 h1 (by omega) w
end Go.Proofs.YtemjoiaapfhenaaGreatDoor
end

/- WDgO -/
section
namespace Go.Proofs.YtemjoiaapfhenaaGreatDoor
open Go.RowKit Go.Larder
set_option linter.unusedVariables false
set_option linter.unusedSimpArgs false
set_option maxHeartbeats 2000000 in
theorem w_root (p : Nat) (hp : p < 100) (w : World) : Calls Tryz.prog 94 #[.int .u64 p] w fun e w' => e = .returned (.int .u32 (rootN p : Nat)) ∧ w = w' := by
  obtain ⟨R, hR⟩ : ∃ R, rootGo p 35 4294967296 21474836480 = R := ⟨_, rfl⟩
  have HR := Lib.hid hR
  have HRn := Lib.hid (show rootN p = R % 4294967296 from by rw [← hR]; rfl)
  clear hR
  go_enter Tryz.func94, Tryz.ntmps94
  go_wp2_with fail
  go_loop [3, 4, 5, 6, 7, 8, 9] (fun l' h' _ _ _ _ _ => ∃ (n low high : Nat), l' = .int .u64 low ∧ h' = .int .u64 high ∧ 4294967296 ≤ low ∧ low < high ∧ high ≤ 21474836480 ∧ high - low ≤ 2 ^ n ∧ Hid (rootGo p n low high = R)) (fun l' h' _ _ _ _ _ => (intOf h').toNat - (intOf l').toNat)
  case atStart => exact ⟨35, 4294967296, 21474836480, rfl, rfl, by omega, by omega, by omega, by decide, HR⟩
  case round =>
    obtain ⟨n, low, high, rfl, rfl, h1, h2, h3, h4, hgo⟩ := hrel
    by_cases hlt : high - low > 1
    · cases n with
      | zero => simp at h4; omega
      | succ n =>
        have hgo2 := hgo.out
        rw [rootGo, if_pos hlt] at hgo2
        have hdI : (1 : Int) < (high : Int) - (low : Int) := by omega
        obtain ⟨m, hm⟩ : ∃ m, (low + high) / 2 = m := ⟨_, rfl⟩
        rw [hm] at hgo2
        have hmI : ((low : Int) + (high : Int)) / 2 = (m : Int) := by omega
        have hm1 : 4294967296 ≤ m := by omega
        have hm2 : m < 21474836480 := by omega
        have Hm := Lib.hid hm
        clear hm
        obtain ⟨a, ha⟩ : ∃ a, m / 4294967296 = a := ⟨_, rfl⟩
        obtain ⟨b, hb⟩ : ∃ b, m % 4294967296 = b := ⟨_, rfl⟩
        have haI : (m : Int) / 4294967296 = (a : Int) := by omega
        have hbI : (m : Int) % 4294967296 = (b : Int) := by omega
        have ha5 : a ≤ 4 := by omega
        have hb5 : b < 4294967296 := by omega
        obtain ⟨aa, haa⟩ : ∃ aa, a * a = aa := ⟨_, rfl⟩
        obtain ⟨ab, hab⟩ : ∃ ab, a * b = ab := ⟨_, rfl⟩
        obtain ⟨bb, hbb⟩ : ∃ bb, b * b = bb := ⟨_, rfl⟩
        have haaI : (a : Int) * (a : Int) = (aa : Int) := by rw [← haa]; push_cast; rfl
        have habI : (a : Int) * (b : Int) = (ab : Int) := by rw [← hab]; push_cast; rfl
        have hbbI : (b : Int) * (b : Int) = (bb : Int) := by rw [← hbb]; push_cast; rfl
        have haa5 : aa ≤ 16 := by rw [← haa]; exact Nat.mul_le_mul ha5 ha5
        have hab5 : ab < 17179869184 := by
          rw [← hab]
          have := Nat.mul_le_mul ha5 (Nat.le_of_lt_succ hb5 : b ≤ 4294967295)
          omega
        have hbb5 : bb < 18446744073709551616 := by
          rw [← hbb]
          have := Nat.mul_le_mul (Nat.le_of_lt_succ hb5 : b ≤ 4294967295) (Nat.le_of_lt_succ hb5 : b ≤ 4294967295)
          omega
        have Hup := Lib.hid (show upN m + loN m / 4294967296 = aa + ab / 2147483648 + (ab * 8589934592 % 18446744073709551616 / 4294967296 + bb / 4294967296) / 4294967296 from by
          unfold upN loN
          rw [ha, hb, haa, hab, hbb])
        have Hgo2 := Lib.hid hgo2
        clear ha hb haa hab hbb hgo2 hgo
        have Hn := Lib.hid h4
        have hwr : ∀ x : Int, IntKind.u64.wrap x = x % 18446744073709551616 := fun x => by simp [IntKind.wrap, IntKind.bits, IntKind.signed]
        have Hwr := Lib.hid hwr
        clear hwr
        clear h4
        go_wp2_with fail
        · rename_i hq
          have hqN : p ≤ upN m + loN m / 4294967296 := by
            rw [Hup.out]
            simp only [Hwr.out] at hq
            omega
          have hg := Hgo2.out
          rw [if_pos hqN] at hg
          have hmN := Hm.out
          go_round
          case rel => exact ⟨n, low, m, rfl, by rw [hmI], by omega, by omega, by omega, by have := Hn.out; rw [Nat.pow_succ] at this; omega, Lib.hid hg⟩
          case measure => simp only [intOf]; omega
        · rename_i hq
          have hqN : ¬ p ≤ upN m + loN m / 4294967296 := by
            rw [Hup.out]
            simp only [Hwr.out] at hq
            omega
          have hg := Hgo2.out
          rw [if_neg hqN] at hg
          have hmN := Hm.out
          go_round
          case rel => exact ⟨n, m, high, by rw [hmI], rfl, by omega, by omega, by omega, by have := Hn.out; rw [Nat.pow_succ] at this; omega, Lib.hid hg⟩
          case measure => simp only [intOf]; omega
    · have hlow := Lib.hid (hgo.out.symm.trans (root_end hlt))
      have hdI : ¬ (1 : Int) < (high : Int) - (low : Int) := by omega
      clear hgo
      go_wp2_with fail
      go_ret
      exact ⟨ret_int (by rw [HRn.out, hlow.out]; omega), rfl⟩
end Go.Proofs.YtemjoiaapfhenaaGreatDoor
end

/- WLib -/
section
namespace Go.Proofs.YtemjoiaapfhenaaGreatDoor
open Go.RowKit Go.Larder
set_option linter.unusedVariables false
set_option linter.unusedSimpArgs false

theorem dataL (v : List UInt8) : (⟨v.toArray⟩ : ByteArray).data.toList = v := by simp
theorem blw_drewN {B : Nat} {a w : World} (h : Below B a w) (n : Nat) : Below B a (w.drewN n) := ⟨h.os, h.tape, h.output, h.size, h.block⟩

/-- The library's variable holds some number. -/
def ML (w : World) : Prop := ∃ m, w.cell? ⟨1, 0, none⟩ = some (.int .i64 m)
theorem ML.keep {w w' : World} (h : ML w) (hb : Below w.heap.size w w') : ML w' := by
  obtain ⟨m, hm⟩ := h
  have hlt : 1 < w.heap.size := by
    rcases Nat.lt_or_ge 1 w.heap.size with h | h
    · exact h
    · simp [World.cell?, Array.getElem?_eq_none h] at hm
  exact ⟨m, (hb.cell (p := ⟨1, 0, none⟩) hlt).trans hm⟩
theorem ML.alloc {w : World} (h : ML w) (o : Obj) : ML (w.alloc o) := h.keep ((Below.refl _ _).alloc (Nat.le_refl _) o)
theorem ML.shaped {w : World} (h : w.ShapedOpen Tryz.prog) : ML w := by
  first
    | exact Tryz.laysM143.s1_3 w h
    | exact Tryz.laysM145.s1_3 w h
    | exact Tryz.laysM146.s1_3 w h
    | exact Tryz.laysM154.s1_3 w h
    | exact Tryz.laysM219.s1_3 w h
    | exact Tryz.laysM220.s1_3 w h
theorem w_Index (s sub : List UInt8) (hs : s.length < 4294967281) (w : World) (hM : ML w) :
    Calls Tryz.prog 71 #[S s, S sub] w fun e w' => e = .returned (.int .i64 (Lib.index s sub)) ∧ w = w' := by
  obtain ⟨m, hm⟩ := hM
  have h := Tryz.strings_Index ⟨s.toArray⟩ ⟨sub.toArray⟩ m w (by rw [ba_size]; exact hs) hm
  rw [dataL, dataL] at h
  exact h.mono fun e w' ⟨he, hw⟩ => ⟨he, hw.symm⟩
theorem w_Contains (s sub : List UInt8) (hs : s.length < 4294967281) (w : World) (hM : ML w) :
    Calls Tryz.prog 85 #[S s, S sub] w fun e w' => e = .returned (.bool (Lib.contains s sub)) ∧ w = w' := by
  obtain ⟨m, hm⟩ := hM
  have h := Tryz.strings_Contains ⟨s.toArray⟩ ⟨sub.toArray⟩ m w (by rw [ba_size]; exact hs) hm
  rw [dataL, dataL] at h
  exact h.mono fun e w' ⟨he, hw⟩ => ⟨he, hw.symm⟩
theorem w_Cut (s sep : List UInt8) (hs : s.length < 4294967281) (w : World) (hM : ML w) :
    Calls Tryz.prog 117 #[S s, S sep] w fun e w' => e = .returned (.tuple #[S (Lib.cut s sep).1, S (Lib.cut s sep).2.1, .bool (Lib.cut s sep).2.2]) ∧ Below w.heap.size w w' := by
  obtain ⟨m, hm⟩ := hM
  have h := Tryz.strings_Cut ⟨s.toArray⟩ ⟨sep.toArray⟩ m w (by rw [ba_size]; exact hs) hm
  rw [dataL, dataL] at h
  refine h.mono ?_
  rintro e w' ⟨he, n, rfl⟩
  exact ⟨he, blw_drewN (Below.refl _ _) n⟩
theorem w_Split (s sep : List UInt8) (hs : s.length < 4294967281) (h1 : 1 ≤ sep.length) (w : World) (hM : ML w) :
    Calls Tryz.prog 8 #[S s, S sep] w fun e w' => e = .returned (.slice (some ⟨w.heap.size, 0, none⟩) (Lib.split s sep).length (Lib.split s sep).length) ∧ OwnL encS w' w.heap.size 9 (some ⟨w.heap.size, 0, none⟩) (Lib.split s sep).length (Lib.split s sep) ∧ Below w.heap.size w w' := by
  obtain ⟨m, hm⟩ := hM
  have h1' : 1 ≤ (⟨sep.toArray⟩ : ByteArray).size := by rw [ba_size]; exact h1
  have h := Tryz.strings_Split ⟨s.toArray⟩ ⟨sep.toArray⟩ m w (by rw [ba_size]; exact hs) hm h1'
  refine h.mono ?_
  rintro e w' ⟨rfl, rfl⟩
  have hlen := Lib.splitB_all ⟨sep.toArray⟩ h1' 0 _ ⟨s.toArray⟩ rfl
  have hle := Lib.countB_le ⟨sep.toArray⟩ h1' _ ⟨s.toArray⟩ (Nat.le_refl _)
  rw [ba_size] at hle
  have hd : (Lib.splitB ⟨sep.toArray⟩ 0 (Lib.countB ⟨s.toArray⟩ ⟨sep.toArray⟩) ⟨s.toArray⟩).map (·.data.toList) = Lib.split s sep := by
    rw [Lib.splitB_data, dataL, dataL]
    show Lib.splitK sep 0 (Lib.count (⟨s.toArray⟩ : ByteArray).data.toList (⟨sep.toArray⟩ : ByteArray).data.toList) s = _
    rw [dataL, dataL]
    rfl
  have hl2 : (Lib.split s sep).length = Lib.countB ⟨s.toArray⟩ ⟨sep.toArray⟩ + 1 := by rw [← hd, List.length_map, hlen]
  refine ⟨by rw [hl2], ?_, (Below.refl _ _).alloc (Nat.le_refl _) _⟩
  refine own_lit w w.heap.size _ _ (Lib.split s sep) ?_ (Nat.le_refl _) (by unfold maxLen; omega)
  rw [flat_S, ← hd, List.map_map]
  simp
theorem w_HasPre (s p : List UInt8) (w : World) :
    Calls Tryz.prog 83 #[S s, S p] w fun e w' => e = .returned (.bool (Lib.hasPrefix s p)) ∧ w = w' := by
  have h := Tryz.strings_HasPrefix ⟨s.toArray⟩ ⟨p.toArray⟩ w
  rw [dataL, dataL] at h
  exact h.mono fun e w' ⟨he, hw⟩ => ⟨he, hw.symm⟩
theorem w_CutPre (s p : List UInt8) (w : World) :
    Calls Tryz.prog 170 #[S s, S p] w fun e w' => e = .returned (.tuple #[S (Lib.trimPrefix s p), .bool (Lib.hasPrefix s p)]) ∧ Below w.heap.size w w' := by
  have h := Tryz.strings_CutPrefix ⟨s.toArray⟩ ⟨p.toArray⟩ w
  rw [dataL, dataL] at h
  refine h.mono ?_
  first
    | (rintro e w' ⟨he, rfl⟩; exact ⟨he, Below.refl _ _⟩)
    | (rintro e w' ⟨he, n, rfl⟩; exact ⟨he, blw_drewN (Below.refl _ _) n⟩)
theorem w_TrimPre (s p : List UInt8) (w : World) :
    Calls Tryz.prog 90 #[S s, S p] w fun e w' => e = .returned (S (Lib.trimPrefix s p)) ∧ w = w' := by
  have h := Tryz.strings_TrimPrefix ⟨s.toArray⟩ ⟨p.toArray⟩ w
  rw [dataL, dataL] at h
  exact h.mono fun e w' ⟨he, hw⟩ => ⟨he, hw.symm⟩
theorem w_ContainsAny (s t : List UInt8) (hs : s.length < 4294967281) (ht : t.length < 4294967281) (has : s.all (fun b => decide (b.toNat < 128)) = true) (hat : t.all (fun b => decide (b.toNat < 128)) = true) (w : World) :
    Calls Tryz.prog 84 #[S s, S t] w fun e w' => e = .returned (.bool (Lib.containsAny s t)) ∧ Below w.heap.size w w' := by
  have h := Tryz.strings_ContainsAny_laid ⟨s.toArray⟩ ⟨t.toArray⟩ w (by rw [ba_size]; exact hs) (by rw [ba_size]; exact ht)
    (fun j b hb => by rw [dataL] at hb; simpa using List.all_eq_true.1 has b (List.mem_of_getElem? hb)) (fun j b hb => by rw [dataL] at hb; simpa using List.all_eq_true.1 hat b (List.mem_of_getElem? hb))
  rw [dataL, dataL] at h
  exact h
end Go.Proofs.YtemjoiaapfhenaaGreatDoor
end

/- WRep -/
section
namespace Go.Proofs.YtemjoiaapfhenaaGreatDoor
open Go.RowKit Go.Larder
set_option linter.unusedVariables false
set_option linter.unusedSimpArgs false
theorem repeatL_rep (x : UInt8) : ∀ n : Nat, Lib.repeatL [x] n = List.replicate n x
  | 0 => rfl
  | n + 1 => by rw [Lib.repeatL, repeatL_rep x n]; rfl
theorem w_RepZ (n : Nat) (hn : n ≤ 1000000) (w : World) :
    Calls Tryz.prog 97 #[S [0], .int .i64 n] w fun e w' => e = .returned (S (List.replicate n 0)) ∧ Below w.heap.size w w' := by
  have h := Tryz.strings_Repeat ⟨#[0]⟩ n w (by omega) (by show 1 * n ≤ _; omega)
  refine h.mono fun e w' ⟨he, hb⟩ => ⟨?_, hb⟩
  rw [he]
  show Ending.returned (Value.string ⟨(Lib.repeatL [0] n).toArray⟩) = _
  rw [repeatL_rep]
theorem w_FieldsA (s : List UInt8) (hs : s.length < 4294967281) (hl : (Lib.fields s).length ≤ 1000) (ha : ∀ (j : Nat) (b : UInt8), s[j]? = some b → b.toNat < 128) (w : World) (htab : Lib.TabIs Tryz.prog w "strings.asciiSpace" .u8 Lib.asciiSpaceTab) :
    Calls Tryz.prog 95 #[S s] w fun e w' => e = .returned (.slice (some ⟨w.heap.size, 0, none⟩) (Lib.fields s).length (Lib.fields s).length) ∧ OwnL encS w' w.heap.size 9 (some ⟨w.heap.size, 0, none⟩) (Lib.fields s).length (Lib.fields s) ∧ Below w.heap.size w w' := by
  have h := Tryz.strings_Fields_laid ⟨s.toArray⟩ w (by rw [ba_size]; exact hs) (by rw [dataL]; exact ha) htab
  rw [dataL] at h
  refine h.mono ?_
  rintro e w' ⟨he, rfl⟩
  refine ⟨he, ?_, (Below.refl _ _).alloc (Nat.le_refl _) _⟩
  exact own_lit w w.heap.size _ _ (Lib.fields s) (by rw [flat_S]) (Nat.le_refl _) (by unfold maxLen; omega)
end Go.Proofs.YtemjoiaapfhenaaGreatDoor
end

/- WDk1 -/
section
namespace Go.Proofs.YtemjoiaapfhenaaGreatDoor
open Go.RowKit Go.Larder
set_option linter.unusedVariables false
set_option linter.unusedSimpArgs false
theorem w_dfails0 (w : World) : Calls Tryz.prog 14 #[.int .i64 0] w fun e w' => e = .returned (.tuple #[]) ∧ w' = w := by
  go_enter Tryz.func14, Tryz.ntmps14
  go_wp2_with fail
  go_end0
  exact ⟨rfl, rfl⟩
abbrev badV (n : Int) : Value := .iface 34 (.agg #[.int .i64 n])
abbrev panE (n : Int) : Ending := .panicked [{ v := badV n, recovered := false }]
theorem w_dfailsN (n : Int) (hn : ¬ n = 0) (w : World) : Calls Tryz.prog 14 #[.int .i64 n] w fun e w' => e = panE n ∧ w' = w := by
  have hE : (n == 0) = false := by simpa using hn
  go_enter Tryz.func14, Tryz.ntmps14
  go_wp2_with fail
  exact ⟨rfl, rfl, rfl⟩
/-- what a command leaves: a text, or a panic -/
def Told (w : World) (E : Except Int (List UInt8)) (e : Ending) (w' : World) : Prop := (match E with
  | .ok t => e = .returned (S t)
  | .error n => e = panE n ∧ ¬ n = 0) ∧ Below w.heap.size w w'
theorem w_dtold (t : List UInt8) (n : Int) (w : World) : Calls Tryz.prog 39 #[S t, .int .i64 n] w fun e w' => (if n = 0 then e = .returned (S t) else e = panE n) ∧ w' = w := by
  by_cases hn : n = 0
  · subst hn
    simp only [if_true]
    go_enter Tryz.func39, Tryz.ntmps39
    go_wp2_with (go_at_call 14; refine (w_dfails0 _).mono ?_; rintro e w1 ⟨rfl, rfl⟩)
    go_ret
    exact ⟨rfl, rfl⟩
  · simp only [if_neg hn]
    go_enter Tryz.func39, Tryz.ntmps39
    go_wp2_with (go_at_call 14; refine (w_dfailsN n hn _).mono ?_; rintro e w1 ⟨rfl, rfl⟩)
    exact ⟨rfl, rfl, rfl⟩
theorem w_dtold0 (t : List UInt8) (w : World) : Calls Tryz.prog 39 #[S t, .int .i64 0] w fun e w' => e = .returned (S t) ∧ w' = w := (w_dtold t 0 w).mono fun _ _ h => by simpa using h
theorem w_dtoldN (t : List UInt8) (n : Int) (hn : ¬ n = 0) (w : World) : Calls Tryz.prog 39 #[S t, .int .i64 n] w fun e w' => e = panE n ∧ w' = w := (w_dtold t n w).mono fun _ _ h => by simpa only [if_neg hn] using h
theorem w_done1 (s : List UInt8) (A : Option Addr) (c : Nat) (w : World) (hr : ReadL encS w w.heap.size A [s]) : Calls Tryz.prog 41 #[.slice A 1 c] w fun e w' => e = .returned (S s) ∧ w' = w := by
  obtain ⟨g, off, rfl, hg, hc0⟩ := hr.at_S (k := 0) rfl
  rw [Nat.add_zero] at hc0
  go_enter Tryz.func41, Tryz.ntmps41
  go_wp2_with fail
  go_ret
  exact ⟨rfl, rfl⟩
theorem w_doneN (l : List (List UInt8)) (A : Option Addr) (c : Nat) (hl : ∀ s, l ≠ [s]) (w : World) : Calls Tryz.prog 41 #[.slice A l.length c] w fun e w' => e = panE 3 ∧ w' = w := by
  have hE : ((l.length : Int) == 1) = false := by
    rcases l with _ | ⟨a, _ | ⟨b, r⟩⟩
    · rfl
    · exact absurd rfl (hl a)
    · simp only [List.length_cons, beq_eq_false_iff_ne]; omega
  clear hl
  generalize l.length = n at hE
  go_enter Tryz.func41, Tryz.ntmps41
  go_wp2_with (go_at_call 14; refine (w_dfailsN 3 (by decide) _).mono ?_; rintro e w1 ⟨rfl, rfl⟩)
  exact ⟨rfl, rfl, rfl⟩
end Go.Proofs.YtemjoiaapfhenaaGreatDoor
end

/- WRef0 -/
section
namespace Go.Proofs.YtemjoiaapfhenaaGreatDoor
open Go.RowKit Go.Larder
set_option linter.unusedVariables false
set_option linter.unusedSimpArgs false

theorem w_outside (n lo hi : Int) (w : World) :
    Calls Tryz.prog 76 #[.int .i64 n, .int .i64 lo, .int .i64 hi] w fun e w' => e = .returned (.bool (decide (n < lo) || decide (hi < n))) ∧ w = w' := by
  by_cases h : n < lo
  · have H := Lib.hid (show decide (n < lo) = true from by simpa using h)
    go_enter Tryz.func76, Tryz.ntmps76
    go_wp2
    go_ret
    exact ⟨ret_bool (by rw [H.out]; rfl), rfl⟩
  · have H := Lib.hid (show decide (n < lo) = false from by simpa using h)
    go_enter Tryz.func76, Tryz.ntmps76
    go_wp2
    go_ret
    exact ⟨ret_bool (by rw [H.out]; rfl), rfl⟩

end Go.Proofs.YtemjoiaapfhenaaGreatDoor
end

/- WLow -/
section
namespace Go.Proofs.YtemjoiaapfhenaaGreatDoor
open Go.RowKit Go.Larder
set_option linter.unusedVariables false
set_option linter.unusedSimpArgs false

set_option maxHeartbeats 1000000 in
theorem w_Lower (l : List UInt8) (hl : l.length ≤ 140737488351232) (w : World) :
    Calls Tryz.prog 168 #[S l] w (fun e w' => e = .returned (S (lowL l)) ∧ Below w.heap.size w w') := by
  have hconv := fun (w : World) => run_bytes_of_string (P := Tryz.prog) w 9 112 5 ⟨l.toArray⟩ Tryz.underlying9 Tryz.underlying112 Tryz.underlying5
  go_enter Tryz.func168, Tryz.ntmps168
  go_wp2_with fail
  go_loopw [10] (fun i' wr => ∃ k : Nat, i' = .int .i64 k ∧ k ≤ l.length ∧ RowB wr w.heap.size (lowL (l.take k) ++ l.drop k) ∧ Below w.heap.size w wr) (fun i' _ => l.length - (intOf i').toNat)
  case atStart => exact ⟨0, rfl, by omega, RowB.new w l _ _, (Below.refl _ _).drew.alloc (Nat.le_refl _) _⟩
  case round =>
    obtain ⟨k, rfl, hk, hrow, hbel⟩ := hrel
    have hll : (lowL (l.take k)).length = k := by rw [lowL_len]; simp; omega
    by_cases hlt : k < l.length
    · obtain ⟨x, hx, hs⟩ := drop_step hlt
      obtain ⟨hc, hf⟩ := hrow.2 k x (by rw [List.getElem?_append_right (by omega), hll, Nat.sub_self, hs]; rfl)
      have hnext : lowL (l.take (k + 1)) = lowL (l.take k) ++ [lowB x] := by
        rw [List.take_add_one, hx]; simp [lowL]
      have hset : (lowL (l.take k) ++ l.drop k).set k (lowB x) = lowL (l.take (k + 1)) ++ l.drop (k + 1) := by
        rw [List.set_append_right _ _ (by omega), hll, Nat.sub_self, hs, hnext]; simp
      have Hset := Lib.hid hset; clear hset hs hnext
      have Hrow := Lib.hid hrow; clear hrow
      by_cases h1 : 65 ≤ x.toNat
      · by_cases h2 : x.toNat ≤ 90
        · have hi1 : (65 : Int) ≤ (x.toNat : Int) := by omega
          have hi2 : (x.toNat : Int) ≤ 90 := by omega
          have e1 : IntKind.u8.wrap ((x.toNat : Int) + 97) = (x.toNat : Int) + 97 := by rw [IntKind.wrap_u8]; omega
          have e2 : IntKind.u8.wrap ((x.toNat : Int) + 97 - 65) = ((lowB x).toNat : Int) := by rw [IntKind.wrap_u8, lowB_in h1 h2]; omega
          go_wp2_with fail
          go_roundw
          case rel => exact ⟨k + 1, by go_num, by omega, by rw [← Hset.out]; exact Hrow.out.set k _, hbel.setCell (p := ⟨_, k, none⟩) (Nat.le_refl _) _⟩
          case measure => simp [intOf]; omega
        · have hi2 : ¬ (x.toNat : Int) ≤ 90 := by omega
          have hi1 : (65 : Int) ≤ (x.toNat : Int) := by omega
          go_wp2_with fail
          go_roundw
          case rel => exact ⟨k + 1, by go_num, by omega, by
            rw [← Hset.out, lowB_out (by omega), set_same (by rw [List.getElem?_append_right (by omega), hll, Nat.sub_self, List.getElem?_drop]; exact hx)]; exact Hrow.out, hbel⟩
          case measure => simp [intOf]; omega
      · have hi1 : ¬ (65 : Int) ≤ (x.toNat : Int) := by omega
        go_wp2_with fail
        go_roundw
        case rel => exact ⟨k + 1, by go_num, by omega, by
          rw [← Hset.out, lowB_out (by omega), set_same (by rw [List.getElem?_append_right (by omega), hll, Nat.sub_self, List.getElem?_drop]; exact hx)]; exact Hrow.out, hbel⟩
        case measure => simp [intOf]; omega
    · obtain rfl : k = l.length := by omega
      have hr : ReadL encB wr (w.heap.size + 1) (some ⟨w.heap.size, 0, none⟩) (lowL l) := by
        have := hrow.read
        rwa [List.take_length, List.drop_length, List.append_nil] at this
      have hback := run_bytes_str (P := Tryz.prog) 112 9 Tryz.underlying112 Tryz.underlying5 Tryz.underlying9 hr (grownCap w l.length 0 5)
      rw [lowL_len] at hback
      clear hrow
      go_wp2_with fail
      go_ret
      exact ⟨rfl, hbel⟩
end Go.Proofs.YtemjoiaapfhenaaGreatDoor
end

/- WNamed -/
section
namespace Go.Proofs.YtemjoiaapfhenaaGreatDoor
open Go.RowKit Go.Larder
set_option linter.unusedVariables false
set_option linter.unusedSimpArgs false

/-- A block that was laid ahead of a call is as it was. -/
theorem box_kept {w w1 : World} {cs : Array Value} {e : TypeId} (hb : Below (w.alloc (.cells cs e)).heap.size (w.alloc (.cells cs e)) w1) :
    w1.heap[w.heap.size]? = some (.cells cs e (0, 0)) := (hb.block _ (by simp)).trans (by show (w.heap.push _)[w.heap.size]? = _; simp)

end Go.Proofs.YtemjoiaapfhenaaGreatDoor
end

/- WJoin -/
section
namespace Go.Proofs.YtemjoiaapfhenaaGreatDoor
open Go.RowKit Go.Larder
set_option linter.unusedVariables false
set_option linter.unusedSimpArgs false
theorem ba_data (v : List UInt8) : (⟨v.toArray⟩ : ByteArray).data.toList = v := by simp
theorem ba_map (vs : List (List UInt8)) : (vs.map (fun v => (⟨v.toArray⟩ : ByteArray))).map (·.data.toList) = vs := by
  induction vs with
  | nil => rfl
  | cons v vs ih => rw [List.map_cons, List.map_cons, ih, ba_data]
theorem w_Join (vs : List (List UInt8)) (sep : List UInt8) (A : Option Addr) (c B : Nat) (w : World) (hr : ReadL encS w B A vs) (hB : B ≤ w.heap.size) (hc : vs.length ≤ c) (hN : vs.length ≤ 140737488355328) (hlen : (Lib.join vs sep).length ≤ 140737488355328) :
    Calls Tryz.prog 75 #[.slice A vs.length c, S sep] w fun e w' => e = .returned (S (Lib.join vs sep)) ∧ Below w.heap.size w w' := by
  cases vs with
  | nil => exact (Tryz.strings_Join_none A c _ w).mono fun e w' ⟨he, hw⟩ => ⟨he, hw ▸ Below.refl _ _⟩
  | cons v vs =>
    obtain ⟨b, off, rfl, hb, hcell⟩ := hr (by simp)
    have h := Tryz.strings_Join b off c ((v :: vs).map (fun v => (⟨v.toArray⟩ : ByteArray))) ⟨sep.toArray⟩ w
      (fun j x hx => by
        rw [List.getElem?_map] at hx
        cases hv : (v :: vs)[j]? with
        | none => rw [hv] at hx; cases hx
        | some y =>
          rw [hv] at hx
          injection hx with hx
          subst hx
          have := hcell j y hv 0 (S y) rfl
          simpa [encS] using this)
      (by omega) (by simpa using hN) (by simpa using hc) (by rw [ba_map, ba_data]; exact hlen)
    rw [ba_map, ba_data, List.length_map] at h
    exact h
end Go.Proofs.YtemjoiaapfhenaaGreatDoor
end

/- WStr -/
section
namespace Go.Proofs.YtemjoiaapfhenaaGreatDoor
open Go.RowKit Go.Larder
set_option linter.unusedVariables false
set_option linter.unusedSimpArgs false
/-- A slice of a text, its bounds in range. -/
theorem run_sliceS {P : Program} (t : TypeId) (ht : P.underlying t = some .string) (s : List UInt8) (lo hi : Int) (h0 : 0 ≤ lo) (h1 : lo ≤ hi) (h2 : hi ≤ s.length) (w : World) :
    (Instr.slice t (.string ⟨s.toArray⟩) (some (.int .i64 lo)) (some (.int .i64 hi)) none).run P w = .ok (S ((s.drop lo.toNat).take (hi.toNat - lo.toNat))) w := by
  have hsz : (⟨s.toArray⟩ : ByteArray).size = s.length := ba_size s
  have e1 : hi.toNat ≤ s.length := by omega
  have e2 : lo ≤ (hi.toNat : Int) := by omega
  have e3 : lo ≤ max hi 0 := by omega
  simp [Instr.slice, Sem.run_bind, run_underlying ht, Instr.sliceBounds, Instr.sliceBound, asIntOf, hsz, h0, h2, show 0 ≤ hi from by omega, e2, e3, Result.andThen]
  rw [ba_extract]
/-- .. to its end. -/
theorem run_sliceT {P : Program} (t : TypeId) (ht : P.underlying t = some .string) (s : List UInt8) (lo : Int) (h0 : 0 ≤ lo) (h1 : lo ≤ s.length) (w : World) :
    (Instr.slice t (.string ⟨s.toArray⟩) (some (.int .i64 lo)) none none).run P w = .ok (S (s.drop lo.toNat)) w := by
  have hsz : (⟨s.toArray⟩ : ByteArray).size = s.length := ba_size s
  simp [Instr.slice, Sem.run_bind, run_underlying ht, Instr.sliceBounds, Instr.sliceBound, asIntOf, hsz, h0, h1, Result.andThen]
  rw [ba_extract, List.take_of_length_le (by rw [List.length_drop]; omega)]
theorem run_cat {P : Program} (a b : List UInt8) (ha : a.length ≤ 8000000) (hb : b.length ≤ 8000000) (w : World) : (Op.stringOp .add ⟨a.toArray⟩ ⟨b.toArray⟩).run P w = .ok (.string ⟨(a ++ b).toArray⟩) w := run_string_add_lists w a b (by omega) (by omega)
/-- A text up to a place. -/
theorem run_sliceU {P : Program} (t : TypeId) (ht : P.underlying t = some .string) (s : List UInt8) (hi : Int) (h0 : 0 ≤ hi) (h2 : hi ≤ s.length) (w : World) :
    (Instr.slice t (.string ⟨s.toArray⟩) none (some (.int .i64 hi)) none).run P w = .ok (S (s.take hi.toNat)) w := by
  have hsz : (⟨s.toArray⟩ : ByteArray).size = s.length := ba_size s
  simp [Instr.slice, Sem.run_bind, run_underlying ht, Instr.sliceBounds, Instr.sliceBound, asIntOf, hsz, h0, h2, Result.andThen]
  rw [ba_extract]
  simp
end Go.Proofs.YtemjoiaapfhenaaGreatDoor
end

/- Open -/
section
namespace Go.Larder
open Go.RowKit Go.ChangeShapes Go.WideShapes Go.Deep
set_option linter.unusedVariables false
set_option linter.unusedSimpArgs false

/-- What an element of type e reads as, and what is known of it. -/
structure OpenE {H : Type} (enc : TypeId × Value → H) (P : Program) (e : TypeId) {α : Type} (E : ElemT α) (dat : α → DataW H) (okx big : α → Prop) (bulk : α → Nat) : Prop where
  size : P.cellsOf e = E.size
  op : ∀ (w : World) (base : Nat) (spare : Nat → Bool) (held : Bool) (n : Nat) (cs : List Value) (y : DataW H × List MemPlace), DataW.trod enc P w base spare held n e cs = some y → ∃ x, cs = E.enc x ∧ y.1 = dat x ∧ okx x
  weight : ∀ x, (∀ n ∈ (dat x).weights P e, n ≤ reachBytes) → big x
  bulk : ∀ x, Go.Proofs.YtemjoiaapfhenaaGreatDoor.Rows.uptoBulk (dat x) = bulk x

section
variable {H : Type} {enc : TypeId × Value → H} {P : Program} {e : TypeId}

theorem OpenE.string (he : P.underlying e = some .string) (hc : P.cellsOf e = 1) :
    OpenE enc P e encS (fun s => .lit (.string s)) (fun _ => True) (fun s => s.length ≤ reachBytes) (fun s => s.length + 1) where
  size := hc
  op := fun w base spare held n cs y h => by
    obtain ⟨s, rfl, rfl, _⟩ := DataW.trod_string he h
    obtain ⟨⟨l⟩⟩ := s
    exact ⟨l, rfl, rfl, trivial⟩
  weight := fun x h => h _ (by simp [DataW.weights])
  bulk := fun x => by simp [Go.Proofs.YtemjoiaapfhenaaGreatDoor.Rows.uptoBulk]

theorem OpenE.texts {f0 f1 : Field} (he : P.underlying e = some (.struct #[f0, f1])) (hc : P.cellsOf e = 2) (h0 : P.underlying f0.type = some .string) (h1 : P.underlying f1.type = some .string)
    (o0 : f0.offset = 0) (o1 : f1.offset = 1) (c0 : P.cellsOf f0.type = 1) (c1 : P.cellsOf f1.type = 1) :
    OpenE enc P e encF (fun f => .agg [.lit (.string f.1), .lit (.string f.2)]) (fun _ => True) (fun f => f.1.length ≤ reachBytes ∧ f.2.length ≤ reachBytes) (fun f => f.1.length + f.2.length + 3) where
  size := hc
  op := fun w base spare held n cs y h => by
    obtain ⟨y0, y1, n', rfl, hl, g0, g1⟩ := trod_struct2 he h
    rw [hc] at hl
    rw [o0, c0] at g0
    rw [o1, c1] at g1
    match cs, hl with
    | [u0, u1], _ =>
      obtain ⟨s0, e0, rfl, _⟩ := DataW.trod_string h0 g0
      obtain ⟨s1, e1, rfl, _⟩ := DataW.trod_string h1 g1
      simp at e0 e1
      subst e0 e1
      obtain ⟨⟨l0⟩⟩ := s0
      obtain ⟨⟨l1⟩⟩ := s1
      exact ⟨(l0, l1), rfl, rfl, trivial⟩
  weight := fun x h => by
    exact ⟨h _ (by simp [DataW.weights, he, DataW.weightsEach]), h _ (by simp [DataW.weights, he, DataW.weightsEach])⟩
  bulk := fun x => by simp [Go.Proofs.YtemjoiaapfhenaaGreatDoor.Rows.uptoBulk, Go.Proofs.YtemjoiaapfhenaaGreatDoor.Rows.uptoBulkAll]; omega

theorem OpenE.nums {f0 f1 : Field} (he : P.underlying e = some (.struct #[f0, f1])) (hc : P.cellsOf e = 2) (h0 : P.underlying f0.type = some (.int .i64)) (h1 : P.underlying f1.type = some (.int .i64))
    (o0 : f0.offset = 0) (o1 : f1.offset = 1) (c0 : P.cellsOf f0.type = 1) (c1 : P.cellsOf f1.type = 1) :
    OpenE enc P e encII (fun f => .agg [.lit (.int .i64 f.1), .lit (.int .i64 f.2)]) (fun f => (-9223372036854775808 ≤ f.1 ∧ f.1 ≤ 9223372036854775807) ∧ (-9223372036854775808 ≤ f.2 ∧ f.2 ≤ 9223372036854775807)) (fun _ => True) (fun _ => 3) where
  size := hc
  op := fun w base spare held n cs y h => by
    obtain ⟨y0, y1, n', rfl, hl, g0, g1⟩ := trod_struct2 he h
    rw [hc] at hl
    rw [o0, c0] at g0
    rw [o1, c1] at g1
    match cs, hl with
    | [u0, u1], _ =>
      obtain ⟨s0, e0, rfl, w0⟩ := DataW.trod_int h0 g0
      obtain ⟨s1, e1, rfl, w1⟩ := DataW.trod_int h1 g1
      simp at e0 e1
      subst e0 e1
      exact ⟨(s0, s1), rfl, rfl, bounds_i64 w0, bounds_i64 w1⟩
  weight := fun _ _ => trivial
  bulk := fun x => by simp [Go.Proofs.YtemjoiaapfhenaaGreatDoor.Rows.uptoBulk, Go.Proofs.YtemjoiaapfhenaaGreatDoor.Rows.uptoBulkAll]

variable {α : Type} {E : ElemT α} {dat : α → DataW H} {okx big : α → Prop} {bulk : α → Nat}
  {w : World} {base : Nat} {spare : Nat → Bool} {held : Bool} {r : Reach} {b0 : Nat} {t : TypeId} {v : Value} {d : DataW H} {ps : List MemPlace}

/-- A slice in one cell, opened. -/
theorem open_list_cell (O : OpenE enc P e E dat okx big bulk) (ht : P.underlying t = some (.slice e)) {m : Nat} {cs0 : List Value} (hm : DataW.trod enc P w base spare held m t cs0 = some (d, ps)) :
    ∃ (A : Option Addr) (l : List α) (c : Nat), cs0 = [.slice A l.length c] ∧ l.length ≤ c ∧ c ≤ maxLen ∧ ReadL E w w.heap.size A l ∧ (∀ x ∈ l, okx x) ∧
      ((d = .nil ∧ A = none ∧ l = [] ∧ c = 0) ∨ A ≠ none ∧ ∃ sp, d = .slice (l.map dat) sp) := by
  rcases open_slice ht hm with ⟨hcs, hx⟩ | ⟨a, len0, cap0, m', n, D, Pl, hcs, hb, hl, hcap, hm', hx, hall⟩
  · subst hcs
    injection hx with h1 h2
    exact ⟨none, [], 0, rfl, by simp, by simp [maxLen], fun h => absurd h (by simp), by simp, .inl ⟨h1, rfl, rfl, rfl⟩⟩
  · subst hcs
    injection hx with h1 h2
    have hlm : len0 ≤ m' := by rw [hm']; split <;> omega
    have each : ∀ i, ∃ x : Option α, i < len0 → ∃ y, x = some y ∧ ∃ cs', w.cells? base (a.add (i * E.size)) E.size = some cs' ∧ cs' = E.enc y ∧ D i = dat y ∧ okx y := fun i => by
      by_cases hi : i < len0
      · obtain ⟨cs', g1, g2⟩ := hall i (by omega)
        obtain ⟨x, hx1, hx2, hx3⟩ := O.op _ _ _ _ _ _ _ g2
        rw [O.size] at g1
        exact ⟨some x, fun _ => ⟨x, rfl, cs', g1, hx1, hx2, hx3⟩⟩
      · exact ⟨none, fun h => absurd h hi⟩
    have : ∃ X : Nat → Option α, ∀ i, i < len0 → ∃ y, X i = some y ∧ ∃ cs', w.cells? base (a.add (i * E.size)) E.size = some cs' ∧ cs' = E.enc y ∧ D i = dat y ∧ okx y :=
      ⟨fun i => Classical.choose (each i), fun i => Classical.choose_spec (each i)⟩
    obtain ⟨X, hX⟩ := this
    have hlist : ∃ l : List α, l.length = len0 ∧ ∀ i, i < len0 → l[i]? = X i := by
      clear hcap hl hm hm' hall hlm each h1 h2 hb
      revert X
      induction len0 with
      | zero => exact fun X _ => ⟨[], rfl, fun i hi => absurd hi (by omega)⟩
      | succ k ih =>
        intro X hX
        obtain ⟨l, hl, hli⟩ := ih X (fun i hi => hX i (by omega))
        obtain ⟨y, hy, _⟩ := hX k (by omega)
        refine ⟨l ++ [y], by simp [hl], fun i hi => ?_⟩
        by_cases h : i < k
        · rw [List.getElem?_append_left (by omega), hli i h]
        · obtain rfl : i = k := by omega
          rw [List.getElem?_append_right (by omega), hl, hy]; simp
    obtain ⟨l, hll, hli⟩ := hlist
    have hX2 : ∀ (i : Nat) (x : α), l[i]? = some x → ∃ cs', w.cells? base (a.add (i * E.size)) E.size = some cs' ∧ cs' = E.enc x ∧ D i = dat x ∧ okx x := fun i x hix => by
      have hi : i < len0 := by have := (List.getElem?_eq_some_iff.1 hix).1; omega
      obtain ⟨y, hy, h⟩ := hX i hi
      rw [hli i hi, hy] at hix
      injection hix with hix
      subst hix
      exact h
    refine ⟨some a, l, cap0, by rw [hll], by omega, hcap, ?_, ?_, .inr ⟨by simp, ?_⟩⟩
    · intro hpos
      obtain ⟨b, off, spot⟩ := a
      have hcell : ∀ k x, l[k]? = some x → ∀ j u, (E.enc x)[j]? = some u → w.cell? (((⟨b, off, spot⟩ : Addr).add (k * E.size)).add j) = some u := fun k x hk j u hu => by
        obtain ⟨cs', g1, g2, _⟩ := hX2 k x hk
        obtain ⟨_, glen, gc⟩ := World.cells?_some g1
        have hj : j < E.size := by have := (List.getElem?_eq_some_iff.1 hu).1; rw [E.len] at this; exact this
        rw [gc j hj, g2, hu]
      obtain ⟨x0, hx0⟩ : ∃ x0, l[0]? = some x0 := ⟨l[0], List.getElem?_eq_getElem hpos⟩
      obtain ⟨u0, hu0⟩ : ∃ u0, (E.enc x0)[0]? = some u0 := by
        have := E.len x0; have := E.pos
        exact ⟨(E.enc x0)[0]'(by omega), List.getElem?_eq_getElem _⟩
      have g0 := hcell 0 x0 hx0 0 u0 hu0
      have hspot : spot = none := by simpa [Addr.add] using World.cell?_spot g0
      subst hspot
      refine ⟨b, off, rfl, ?_, fun k x hk j u hu => ?_⟩
      · simp only [add_plain, Nat.zero_mul, Nat.add_zero] at g0
        rcases Nat.lt_or_ge b w.heap.size with h | h
        · exact h
        · simp [World.cell?, Array.getElem?_eq_none h] at g0
      · have := hcell k x hk j u hu
        rwa [add_plain, add_plain] at this
    · intro x hx
      obtain ⟨i, hi⟩ := List.getElem?_of_mem hx
      obtain ⟨_, _, _, _, h⟩ := hX2 i x hi
      exact h
    · refine ⟨(List.range (m' - len0)).map (fun j => D (len0 + j)), ?_⟩
      rw [h1, show (List.range len0).map D = l.map dat from ?_]
      apply List.ext_getElem?
      intro i
      by_cases hi : i < len0
      · obtain ⟨y, hy, _, _, _, hD, _⟩ := hX i hi
        rw [← hli i hi] at hy
        simp [hi, hy, hD]
      · simp [hi, hll]

/-- The slice opened. -/
theorem open_list (O : OpenE enc P e E dat okx big bulk) (ht : P.underlying t = some (.slice e)) (hval : Value.okWide P w r b0 t v) (hd : DataW.Trod enc P w base spare held t v d ps) :
    ∃ (A : Option Addr) (l : List α) (c : Nat), v = .slice A l.length c ∧ l.length ≤ c ∧ c ≤ maxLen ∧ ReadL E w w.heap.size A l ∧ (∀ x ∈ l, okx x) ∧
      ((d = .nil ∧ A = none ∧ l = [] ∧ c = 0) ∨ A ≠ none ∧ ∃ sp, d = .slice (l.map dat) sp) := by
  obtain ⟨a0, len0, cap0, rfl⟩ := okWide_slice ht hval
  obtain ⟨m, hm⟩ := hd
  obtain ⟨A, l, c, h1, h2⟩ := open_list_cell O ht hm
  simp only [Value.cells, List.cons.injEq, and_true] at h1
  exact ⟨A, l, c, h1, h2⟩

theorem weightsAll_mem {H : Type} {P : Program} {e : TypeId} : ∀ {ds : List (DataW H)} {d : DataW H}, d ∈ ds → ∀ n ∈ d.weights P e, n ∈ DataW.weightsAll P e ds
  | _ :: _, _, h, n, hn => by
    simp only [DataW.weightsAll, List.mem_append]
    rcases List.mem_cons.1 h with rfl | h
    · exact Or.inl hn
    · exact Or.inr (weightsAll_mem h n hn)

/-- The first form's bound. -/
theorem sized_list (O : OpenE enc P e E dat okx big bulk) (ht : P.underlying t = some (.slice e)) {ts : List TypeId} {ds : List (DataW H)} (h : (DataW.weightsEach P ts ds).all (· ≤ reachBytes) = true)
    {j : Nat} {A : Option Addr} {c : Nat} {l : List α} (htj : ts[j]? = some t) (hdj : ds[j]? = some d)
    (hd : (d = .nil ∧ A = none ∧ l = [] ∧ c = 0) ∨ A ≠ none ∧ ∃ sp, d = .slice (l.map dat) sp) : l.length * P.bytesOf e ≤ reachBytes ∧ ∀ x ∈ l, big x := by
  rcases hd with ⟨_, _, rfl, _⟩ | ⟨_, sp, rfl⟩
  · simp
  · refine ⟨?_, fun x hx => O.weight x fun n hn => ?_⟩
    · have := sized_slice h htj hdj ht
      rw [List.length_map] at this
      exact Nat.le_trans (Nat.mul_le_mul_right _ (by omega)) this
    · refine of_decide_eq_true (List.all_eq_true.1 h n (DataW.weights_mem_each htj hdj _ ?_))
      simp only [DataW.weights, ht, List.mem_cons, List.mem_append]
      exact Or.inr (Or.inl (weightsAll_mem (List.mem_map.2 ⟨x, hx, rfl⟩) n hn))

theorem bulkAll_map (O : OpenE enc P e E dat okx big bulk) : ∀ (l : List α), Go.Proofs.YtemjoiaapfhenaaGreatDoor.Rows.uptoBulkAll (l.map dat) = (l.map bulk).sum
  | [] => by simp [Go.Proofs.YtemjoiaapfhenaaGreatDoor.Rows.uptoBulkAll]
  | x :: l => by simp [Go.Proofs.YtemjoiaapfhenaaGreatDoor.Rows.uptoBulkAll, O.bulk, bulkAll_map O l]

/-- The second form's bound. -/
theorem bulk_list (O : OpenE enc P e E dat okx big bulk) {A : Option Addr} {c : Nat} {l : List α}
    (hd : (d = .nil ∧ A = none ∧ l = [] ∧ c = 0) ∨ A ≠ none ∧ ∃ sp, d = .slice (l.map dat) sp) : (l.map bulk).sum + 1 ≤ Go.Proofs.YtemjoiaapfhenaaGreatDoor.Rows.uptoBulk d := by
  rcases hd with ⟨rfl, _, rfl, _⟩ | ⟨_, sp, rfl⟩
  · simp [Go.Proofs.YtemjoiaapfhenaaGreatDoor.Rows.uptoBulk]
  · simp only [Go.Proofs.YtemjoiaapfhenaaGreatDoor.Rows.uptoBulk, bulkAll_map O]
    omega
end
end Go.Larder
end

/- EncD -/
section
namespace Go.Larder
open Go.RowKit Go.ChangeShapes Go.WideShapes Go.Deep
set_option linter.unusedVariables false
set_option linter.unusedSimpArgs false
abbrev Dir := List UInt8 × Bool × List UInt8
def encD : ElemT Dir := ⟨fun f => [S f.1, .bool f.2.1, S f.2.2], 3, fun _ => rfl, fun _ u hu => by simp at hu; rcases hu with rfl | rfl | rfl <;> rfl, by omega⟩
theorem ReadL.at_D {w : World} {B : Nat} {A : Option Addr} {l : List Dir} (h : ReadL encD w B A l) {k : Nat} {x : Dir} (hx : l[k]? = some x) :
    ∃ b off, A = some ⟨b, off, none⟩ ∧ b < B ∧ w.cell? ⟨b, off + k * 3, none⟩ = some (S x.1) ∧ w.cell? ⟨b, off + k * 3 + 1, none⟩ = some (.bool x.2.1) ∧ w.cell? ⟨b, off + k * 3 + 2, none⟩ = some (S x.2.2) := by
  obtain ⟨b, off, hA, hb, hc⟩ := h.at_ hx
  exact ⟨b, off, hA, hb, by simpa [encD] using hc 0 _ rfl, by simpa [encD] using hc 1 _ rfl, by simpa [encD] using hc 2 _ rfl⟩
section
variable {H : Type} {enc : TypeId × Value → H} {P : Program} {e : TypeId}
theorem OpenE.dirs {f0 f1 f2 : Field} (he : P.underlying e = some (.struct #[f0, f1, f2])) (hc : P.cellsOf e = 3) (h0 : P.underlying f0.type = some .string) (h1 : P.underlying f1.type = some .bool) (h2 : P.underlying f2.type = some .string)
    (o0 : f0.offset = 0) (o1 : f1.offset = 1) (o2 : f2.offset = 2) (c0 : P.cellsOf f0.type = 1) (c1 : P.cellsOf f1.type = 1) (c2 : P.cellsOf f2.type = 1) :
    OpenE enc P e encD (fun f => .agg [.lit (.string f.1), .lit (.bool f.2.1), .lit (.string f.2.2)]) (fun _ => True) (fun f => f.1.length ≤ reachBytes ∧ f.2.2.length ≤ reachBytes) (fun f => f.1.length + f.2.2.length + 4) where
  size := hc
  op := fun w base spare held n cs y h => by
    obtain ⟨y0, y1, y2, n', rfl, hl, g0, g1, g2⟩ := trod_struct3 he h
    rw [hc] at hl
    rw [o0, c0] at g0
    rw [o1, c1] at g1
    rw [o2, c2] at g2
    match cs, hl with
    | [u0, u1, u2], _ =>
      obtain ⟨s0, e0, rfl, _⟩ := DataW.trod_string h0 g0
      obtain ⟨s1, e1, rfl⟩ := DataW.trod_bool h1 g1
      obtain ⟨s2, e2, rfl, _⟩ := DataW.trod_string h2 g2
      simp at e0 e1 e2
      subst e0 e1 e2
      obtain ⟨⟨l0⟩⟩ := s0
      obtain ⟨⟨l2⟩⟩ := s2
      exact ⟨(l0, s1, l2), rfl, rfl, trivial⟩
  weight := fun x h => by
    exact ⟨h _ (by simp [DataW.weights, he, DataW.weightsEach]), h _ (by simp [DataW.weights, he, DataW.weightsEach])⟩
  bulk := fun x => by simp [Go.Proofs.YtemjoiaapfhenaaGreatDoor.Rows.uptoBulk, Go.Proofs.YtemjoiaapfhenaaGreatDoor.Rows.uptoBulkAll]; omega
end
end Go.Larder
end

/- WPlainR -/
section
namespace Go.Proofs.YtemjoiaapfhenaaGreatDoor
open Go.RowKit Go.Larder
set_option linter.unusedVariables false
set_option linter.unusedSimpArgs false
theorem c1_outside (n lo hi : Int) (w : World) :
    Calls Tryz.prog 76 #[.int .i64 n, .int .i64 lo, .int .i64 hi] w fun e w' => e = .returned (.bool (decide (n < lo) || decide (hi < n))) ∧ w = w' := by
  by_cases h : n < lo
  · have H := Lib.hid (show decide (n < lo) = true from by simpa using h)
    go_enter Tryz.func76, Tryz.ntmps76
    go_wp2
    go_ret
    exact ⟨ret_bool (by rw [H.out]; rfl), rfl⟩
  · have H := Lib.hid (show decide (n < lo) = false from by simpa using h)
    go_enter Tryz.func76, Tryz.ntmps76
    go_wp2
    go_ret
    exact ⟨ret_bool (by rw [H.out]; rfl), rfl⟩


theorem c1_plainR (l : List UInt8) (hl : l.length ≤ 140737488351232) (w : World) :
    Calls Tryz.prog 72 #[S l] w fun e w' => e = .returned (.bool (l.all isPl)) ∧ w = w' := by
  go_enter Tryz.func72, Tryz.ntmps72
  go_wp2_with fail
  go_loop [6] (fun v => ∃ k : Nat, v = .int .i64 k ∧ k ≤ l.length ∧ (l.drop k).all isPl = l.all isPl) (fun v => l.length - (intOf v).toNat)
  case atStart => exact ⟨0, rfl, by omega, rfl⟩
  case round =>
    obtain ⟨k, rfl, hk, hd⟩ := hrel
    have Hd := Lib.hid hd; clear hd
    by_cases hlt : k < l.length
    · obtain ⟨x, hx, hs⟩ := drop_step hlt
      have hg : ∀ h, l[k]'h = x := fun h => by rw [List.getElem?_eq_getElem h] at hx; exact Option.some.inj hx
      have Hs := Lib.hid hs; clear hs hx
      cases h9 : ((x.toNat : Int) == 9)
      · by_cases h1 : (x.toNat : Int) < 32
        · have Hp := Lib.hid (show isPl x = false from by simp at h9; simp [isPl, h9]; omega)
          go_wp2_with (go_at_call 76; refine (c1_outside _ _ _ _).mono ?_; rintro e w' ⟨rfl, rfl⟩)
          go_ret
          exact ⟨ret_bool (by rw [← Hd.out, Hs.out]; simp [Hp.out]), rfl⟩
        · by_cases h2 : 126 < (x.toNat : Int)
          · have Hp := Lib.hid (show isPl x = false from by simp at h9; simp [isPl, h9]; omega)
            go_wp2_with (go_at_call 76; refine (c1_outside _ _ _ _).mono ?_; rintro e w' ⟨rfl, rfl⟩)
            go_ret
            exact ⟨ret_bool (by rw [← Hd.out, Hs.out]; simp [Hp.out]), rfl⟩
          · have Hp := Lib.hid (show isPl x = true from by simp [isPl]; omega)
            go_wp2_with (go_at_call 76; refine (c1_outside _ _ _ _).mono ?_; rintro e w' ⟨rfl, rfl⟩)
            go_round
            case rel => exact ⟨k + 1, by go_num, by omega, by rw [← Hd.out, Hs.out]; simp [Hp.out]⟩
            case measure => simp [intOf]; omega
      · have Hp := Lib.hid (show isPl x = true from by simp [isPl, h9])
        go_wp2_with fail
        go_round
        case rel => exact ⟨k + 1, by go_num, by omega, by rw [← Hd.out, Hs.out]; simp [Hp.out]⟩
        case measure => simp [intOf]; omega
    · go_wp2_with fail
      go_ret
      exact ⟨ret_bool (by rw [← Hd.out, drop_end hlt]; rfl), rfl⟩

end Go.Proofs.YtemjoiaapfhenaaGreatDoor
end

/- WCrc -/
section
namespace Go.Proofs.YtemjoiaapfhenaaGreatDoor
open Go.RowKit Go.Larder
set_option linter.unusedVariables false
set_option linter.unusedSimpArgs false

theorem w_Crc (l : List UInt8) (hl : l.length ≤ 140737488351232) (w : World) :
    Calls Tryz.prog 68 #[S l] w fun e w' => e = .returned (.int .u32 ((crc l : Nat) : Int)) ∧ w = w' := by
  go_enter Tryz.func68, Tryz.ntmps68
  go_wp2_with fail
  go_loop [3, 7] (fun n' i' => ∃ (k n : Nat), i' = .int .i64 k ∧ n' = .int .u32 n ∧ k ≤ l.length ∧ n < 4294967296 ∧ cFold (l.drop k) n = cFold l 4294967295) (fun _ i' => l.length - (intOf i').toNat)
  case atStart => exact ⟨0, 4294967295, rfl, rfl, by omega, by omega, rfl⟩
  case round =>
    obtain ⟨k, n, rfl, rfl, hk, hn, hd⟩ := hrel
    have Hd := Lib.hid hd; clear hd
    by_cases hlt : k < l.length
    · obtain ⟨x, hx, hs⟩ := drop_step hlt
      have hg : ∀ h, l[k]'h = x := fun h => by rw [List.getElem?_eq_getElem h] at hx; exact Option.some.inj hx
      have Hs := Lib.hid hs; clear hs hx
      have Hx2 := Lib.hid (xor_walk hn x)
      have hn2 := xor_u8_lt hn x
      go_wp2_with fail
      go_loop [3, 16] (fun n' j' => ∃ (j m : Nat), j' = .int .i64 j ∧ n' = .int .u32 m ∧ j ≤ 8 ∧ m < 4294967296 ∧ cIter (8 - j) m = cByte n x) (fun _ j' => 8 - (intOf j').toNat)
      case atStart => exact ⟨0, n ^^^ x.toNat, rfl, by rw [Hx2.out], by omega, hn2, rfl⟩
      case round =>
        obtain ⟨j, m, rfl, rfl, hj, hm, hi⟩ := hrel
        have Hi := Lib.hid hi; clear hi hn2
        by_cases hlt8 : j < 8
        · have Hw := Lib.hid (cStep_walk hm)
          go_wp2_with fail
          go_round
          case rel => exact ⟨j + 1, cStep m, by go_num, by rw [Hw.out], by omega, cStep_lt hm, by rw [← Hi.out, show 8 - j = (8 - (j + 1)) + 1 by omega]; rfl⟩
          case measure => simp [intOf]; omega
        · have Hf := Lib.hid (show m = cByte n x from by rw [← Hi.out, show 8 - j = 0 by omega]; rfl)
          go_wp2_with fail
          go_round
          case rel => exact ⟨k + 1, m, by go_num, rfl, by omega, hm, by rw [← Hd.out, Hs.out, Hf.out]; rfl⟩
          case measure => simp [intOf]; omega
    · have hle : cFold l 4294967295 < 4294967296 := cFold_lt l _ (by omega)
      have Hf := Lib.hid (show n = cFold l 4294967295 from by rw [← Hd.out, drop_end hlt]; rfl)
      go_wp2_with fail
      go_ret
      exact ⟨ret_int (by unfold crc; rw [← Hf.out]; exact not_walk hn), rfl⟩

theorem w_CrcR (l : List UInt8) (hl : l.length ≤ 140737488351232) (w : World) :
    Calls Tryz.prog 33 #[S l] w fun e w' => e = .returned (.int .u32 ((crc l : Nat) : Int)) ∧ w = w' := by
  go_enter Tryz.func33, Tryz.ntmps33
  go_wp2_with fail
  go_loop [3, 9] (fun n' i' => ∃ (k n : Nat), i' = .int .i64 k ∧ n' = .int .u64 n ∧ k ≤ l.length ∧ n < 4294967296 ∧ cFold (l.drop k) n = cFold l 4294967295) (fun _ i' => l.length - (intOf i').toNat)
  case atStart => exact ⟨0, 4294967295, rfl, rfl, by omega, by omega, rfl⟩
  case round =>
    obtain ⟨k, n, rfl, rfl, hk, hn, hd⟩ := hrel
    have Hd := Lib.hid hd; clear hd
    by_cases hlt : k < l.length
    · obtain ⟨x, hx, hs⟩ := drop_step hlt
      have hg : ∀ h, l[k]'h = x := fun h => by rw [List.getElem?_eq_getElem h] at hx; exact Option.some.inj hx
      have Hs := Lib.hid hs; clear hs hx
      go_wp2_with fail
      go_loop [3, 12] (fun n' j' => ∃ (j m : Nat), j' = .int .i64 j ∧ n' = .int .u64 m ∧ j ≤ 8 ∧ m < 4294967296 ∧ rIter x.toNat (8 - j) j m = cByte n x) (fun _ j' => 8 - (intOf j').toNat)
      case atStart => exact ⟨0, n, rfl, rfl, by omega, hn, (cByte_rIter n x).symm⟩
      case round =>
        obtain ⟨j, m, rfl, rfl, hj, hm, hi⟩ := hrel
        have Hi := Lib.hid hi; clear hi
        by_cases hlt8 : j < 8
        · have Hw := Lib.hid (rbit_walk m j x)
          have Hl := Lib.hid (rStep_lt (b := x.toNat) (k := j) hm)
          cases hb : ((m : Int) % 2 == IntKind.u64.wrap (((x.toNat : Int) / 2 ^ j).tmod 2))
          · have He := Lib.hid (show rStep m x.toNat j = (m / 2) ^^^ 2197175160 from by unfold rStep; rw [bne, ← Hw.out, hb]; rfl)
            have Hx := Lib.hid (rxor_walk hm)
            go_wp2_with fail
            go_round
            case rel => exact ⟨j + 1, rStep m x.toNat j, by go_num, by rw [He.out, Hx.out], by omega, Hl.out, by rw [← Hi.out, show 8 - j = (8 - (j + 1)) + 1 by omega]; rfl⟩
            case measure => simp [intOf]; omega
          · have He := Lib.hid (show rStep m x.toNat j = m / 2 from by unfold rStep; rw [bne, ← Hw.out, hb]; rfl)
            go_wp2_with fail
            go_round
            case rel => exact ⟨j + 1, rStep m x.toNat j, by go_num, by rw [He.out]; go_num, by omega, Hl.out, by rw [← Hi.out, show 8 - j = (8 - (j + 1)) + 1 by omega]; rfl⟩
            case measure => simp [intOf]; omega
        · have Hf := Lib.hid (show m = cByte n x from by rw [← Hi.out, show 8 - j = 0 by omega]; rfl)
          go_wp2_with fail
          go_round
          case rel => exact ⟨k + 1, m, by go_num, rfl, by omega, hm, by rw [← Hd.out, Hs.out, Hf.out]; rfl⟩
          case measure => simp [intOf]; omega
    · have hle : cFold l 4294967295 < 4294967296 := cFold_lt l _ (by omega)
      have Hf := Lib.hid (show n = cFold l 4294967295 from by rw [← Hd.out, drop_end hlt]; rfl)
      go_wp2_with fail
      go_ret
      refine ⟨ret_int ?_, rfl⟩
      unfold crc; rw [← Hf.out]; omega
end Go.Proofs.YtemjoiaapfhenaaGreatDoor
end

/- WDk3 -/
section
namespace Go.Proofs.YtemjoiaapfhenaaGreatDoor
open Go.RowKit Go.Larder
set_option linter.unusedVariables false
set_option linter.unusedSimpArgs false
abbrev fnV (k : Nat) : Value := .func (.func k) #[] #[]
def cmdM : List (List UInt8 × Value) := [
  ([113, 117, 111, 116, 101], fnV 38),
  ([117, 110, 113, 117, 111, 116, 101], fnV 42),
  ([115, 112, 108, 105, 116], fnV 44),
  ([100, 97, 116, 101], fnV 47),
  ([116, 105, 109, 101], fnV 50),
  ([110, 111, 114, 109, 97, 108], fnV 52),
  ([99, 111, 110, 116, 114, 111, 108], fnV 54),
  ([116, 97, 103], fnV 57),
  ([114, 97, 110, 103, 101], fnV 60),
  ([99, 117, 116], fnV 61),
  ([115, 117, 109], fnV 63),
  ([99, 114, 99], fnV 66)]
set_option maxHeartbeats 2000000 in
set_option maxRecDepth 100000 in
theorem w_commands (w : World) : Calls Tryz.prog 13 #[] w fun e w' => ∃ g, e = .returned (.map (some g)) ∧ Go.Larder.MapAt w' g cmdM ∧ w.heap.size ≤ g ∧ Below w.heap.size w w' := by
  have hmm := @run_makeMap Tryz.prog
  have hB := (Below.refl w.heap.size w).alloc (Nat.le_refl _) (.map #[] 0)
  have hm0 := Go.Larder.MapAt.made w
  obtain ⟨w1, r1, hm1, hs1⟩ := hm0.put Tryz.underlying38 Tryz.underlying9 [113, 117, 111, 116, 101] (fnV 38)
  obtain ⟨w2, r2, hm2, hs2⟩ := hm1.put Tryz.underlying38 Tryz.underlying9 [117, 110, 113, 117, 111, 116, 101] (fnV 42)
  obtain ⟨w3, r3, hm3, hs3⟩ := hm2.put Tryz.underlying38 Tryz.underlying9 [115, 112, 108, 105, 116] (fnV 44)
  obtain ⟨w4, r4, hm4, hs4⟩ := hm3.put Tryz.underlying38 Tryz.underlying9 [100, 97, 116, 101] (fnV 47)
  obtain ⟨w5, r5, hm5, hs5⟩ := hm4.put Tryz.underlying38 Tryz.underlying9 [116, 105, 109, 101] (fnV 50)
  obtain ⟨w6, r6, hm6, hs6⟩ := hm5.put Tryz.underlying38 Tryz.underlying9 [110, 111, 114, 109, 97, 108] (fnV 52)
  obtain ⟨w7, r7, hm7, hs7⟩ := hm6.put Tryz.underlying38 Tryz.underlying9 [99, 111, 110, 116, 114, 111, 108] (fnV 54)
  obtain ⟨w8, r8, hm8, hs8⟩ := hm7.put Tryz.underlying38 Tryz.underlying9 [116, 97, 103] (fnV 57)
  obtain ⟨w9, r9, hm9, hs9⟩ := hm8.put Tryz.underlying38 Tryz.underlying9 [114, 97, 110, 103, 101] (fnV 60)
  obtain ⟨w10, r10, hm10, hs10⟩ := hm9.put Tryz.underlying38 Tryz.underlying9 [99, 117, 116] (fnV 61)
  obtain ⟨w11, r11, hm11, hs11⟩ := hm10.put Tryz.underlying38 Tryz.underlying9 [115, 117, 109] (fnV 63)
  obtain ⟨w12, r12, hm12, hs12⟩ := hm11.put Tryz.underlying38 Tryz.underlying9 [99, 114, 99] (fnV 66)
  have hs := (((((((((((hs1.trans hs2 (fun _ _ h => h)).trans hs3 (fun _ _ h => h)).trans hs4 (fun _ _ h => h)).trans hs5 (fun _ _ h => h)).trans hs6 (fun _ _ h => h)).trans hs7 (fun _ _ h => h)).trans hs8 (fun _ _ h => h)).trans hs9 (fun _ _ h => h)).trans hs10 (fun _ _ h => h)).trans hs11 (fun _ _ h => h)).trans hs12 (fun _ _ h => h))
  replace hm12 : Go.Larder.MapAt w12 w.heap.size cmdM := hm12
  go_enter Tryz.func13, Tryz.ntmps13
  go_wp2_with fail
  go_ret
  exact ⟨w.heap.size, rfl, hm12, Nat.le_refl _, hB.trans (hs.toBelow (by rw [World.size_alloc]; omega) (fun j hj h => by omega))⟩
end Go.Proofs.YtemjoiaapfhenaaGreatDoor
end

/- WHexR -/
section
namespace Go.Proofs.YtemjoiaapfhenaaGreatDoor
open Go.RowKit Go.Larder
set_option linter.unusedVariables false
set_option linter.unusedSimpArgs false
theorem hx_sl : ∀ (k : Nat), k < 16 → ∀ w, (Instr.slice 9 (.string ⟨#[48, 49, 50, 51, 52, 53, 54, 55, 56, 57, 97, 98, 99, 100, 101, 102]⟩) (some (.int .i64 (k : Int))) (some (.int .i64 ((k : Int) + 1))) none).run Tryz.prog w = .ok (.string ⟨#[hexd k]⟩) w := by
  intro k hk w
  have h := run_sliceS (P := Tryz.prog) 9 Tryz.underlying9 hxTab (k : Int) ((k : Int) + 1) (by omega) (by omega) (by show _ ≤ ((16 : Nat) : Int); omega) w
  refine h.trans ?_
  rw [show ((k : Int) + 1).toNat - (k : Int).toNat = 1 from by omega, Int.toNat_natCast]
  revert k
  apply sixteen <;> (intro _; rfl)
set_option maxHeartbeats 1000000 in
theorem w_hexR : ∀ (f : Nat) (n : Nat), n < f → n ≤ 5000 → ∀ (w : World),
    Calls Tryz.prog 93 #[.int .i64 (n : Int)] w fun e w' => e = .returned (S (hxL n)) ∧ w = w'
  | 0, n, h, _, w => by omega
  | f + 1, n, hf, hn, w => by
    by_cases h : n < 16
    · rw [hxL_one h]
      have hs := hx_sl n h
      have e1 : IntKind.i64.wrap ((n : Int) + 1) = (n : Int) + 1 := IntWalk.i64_in _ ⟨by omega, by omega⟩
      go_enter Tryz.func93, Tryz.ntmps93
      go_wp2_with fail
      go_ret
      exact ⟨by simp, rfl⟩
    · rw [hxL_step h]
      have i1 := fun w => w_hexR f (n / 16) (by omega) (by omega) w
      have i2 := fun w => w_hexR f (n % 16) (by omega) (by omega) w
      rw [hxL_one (n := n % 16) (by omega)] at i2
      have hl := hxL_len (n := n / 16) (by omega)
      generalize hxL (n / 16) = A at *
      have e1 : ((n / 16 : Nat) : Int) = (n : Int) / 16 := by omega
      have e2 : ((n % 16 : Nat) : Int) = (n : Int) % 16 := by omega
      rw [e1] at i1
      rw [e2] at i2
      clear e1 e2
      go_enter Tryz.func93, Tryz.ntmps93
      go_wp2_with (first
        | (go_at_call 93; (with_reducible refine Calls.mono (i1 _) ?_); rintro e w' ⟨rfl, rfl⟩)
        | (go_at_call 93; (with_reducible refine Calls.mono (i2 _) ?_); rintro e w' ⟨rfl, rfl⟩))
      go_ret
      exact ⟨by simp, rfl⟩
end Go.Proofs.YtemjoiaapfhenaaGreatDoor
end

/- WEq -/
section
namespace Go.Proofs.YtemjoiaapfhenaaGreatDoor
open Go.RowKit Go.Larder
set_option linter.unusedVariables false
set_option linter.unusedSimpArgs false

theorem w_Eq_string (l : List (List UInt8)) (hl : l.length ≤ 140737488351232) (A A' : Option Addr) (c c' B B' : Nat) (w : World) (h : ReadL encS w B A l) (h' : ReadL encS w B' A' l) :
    Calls Tryz.prog 6 #[.slice A l.length c, .slice A' l.length c'] w fun e w' => e = .returned (.bool true) ∧ w = w' := by
  have H := Lib.hid h; clear h
  have H' := Lib.hid h'; clear h'
  go_enter Tryz.func6, Tryz.ntmps6
  go_wp2_with fail
  go_loop [14] (fun v => ∃ k : Nat, v = .int .i64 k ∧ k ≤ l.length) (fun v => l.length - (intOf v).toNat)
  case atStart => exact ⟨0, rfl, by omega⟩
  case round =>
    obtain ⟨k, rfl, hk⟩ := hrel
    by_cases hlt : k < l.length
    · obtain ⟨x, hx, _⟩ := drop_step hlt
      obtain ⟨b, off, rfl, _, hc⟩ := H.out.at_S hx
      obtain ⟨b', off', rfl, _, hc'⟩ := H'.out.at_S hx
      clear hx
      go_wp2_with fail
      go_round
      case rel => exact ⟨k + 1, by go_num, by omega⟩
      case measure => simp [intOf]; omega
    · go_wp2_with fail
      go_ret
      exact ⟨rfl, rfl⟩
end Go.Proofs.YtemjoiaapfhenaaGreatDoor
end
