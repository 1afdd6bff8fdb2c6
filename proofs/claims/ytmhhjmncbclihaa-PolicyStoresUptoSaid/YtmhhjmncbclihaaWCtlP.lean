/- Walks: the program's Parse of directives; R.Eq at them. -/
import Derived.Test.YtmhhjmncbclihaaWDir
import Derived.Test.YtmhhjmncbclihaaSpecs
import Derived.Deep.QuietTactic
import Derived.BigQuiet
namespace Go.Proofs.Ytmhhjmncbclihaa
open Go.RowKit Go.Larder
set_option linter.unusedVariables false
set_option linter.unusedSimpArgs false

theorem splitE_ne {s : List UInt8} {n : Int} (h : splitE s = .error n) : n ≠ 0 := by
  unfold splitE at h
  split at h
  · injection h with h; omega
  · split at h
    · rename_i m hm
      injection h with h
      have := cutE_err 44 s m hm
      omega
    · split at h
      · injection h with h; omega
      · cases h
theorem sl_dir : SlT Try.prog 129 166 3 40 := SlT.mk' (z := .agg #[.string ByteArray.empty, .bool false, .string ByteArray.empty]) Try.underlying129 (by kernel_rfl) rfl

set_option maxHeartbeats 4000000 in
theorem w_CtlParse (s : List UInt8) (hs : s.length ≤ 140737488351232) (w : World) :
    Calls Try.prog 110 #[S s] w (SlPost encD 166 w (ctlE s)) := by
  obtain ⟨R, hR⟩ : ∃ R, R = ctlE s := ⟨_, rfl⟩
  rw [← hR]
  have HR := Lib.hid hR
  clear hR
  cases hsp : splitE s with
  | error n =>
    have hn : n ≠ 0 := splitE_ne hsp
    have hn2 : (n == 0) = false := by simpa using hn
    have HR2 := Lib.hid (show R = .error n from by rw [HR.out]; exact ctlE_err hsp)
    go_enter Try.func110, Try.ntmps110
    go_wp2_with fail
    refine (wt_Split s hs _).mono ?_
    intro e w1 hp1
    obtain ⟨rfl, hb1⟩ := hp1.err hsp
    go_wp2_with fail
    go_ret2
    rw [HR2.out]
    exact ⟨rfl, hb1⟩
  | ok l =>
    have hl20 := splitE_ok hsp
    have htx := splitE_text hsp
    go_enter Try.func110, Try.ntmps110
    go_wp2_with fail
    refine (wt_Split s hs _).mono ?_
    intro e w1 hp1
    obtain ⟨AL, cL, rfl, hownL, hb1⟩ := hp1.ok_ hsp
    have hs1 := hb1.size
    have Hread := Lib.hid (hownL.read)
    clear hownL
    go_wp2_with fail
    go_loopw [6, 21] (fun o i' wr => ∃ (k : Nat) (acc : List Dir) (A : Option Addr) (c : Nat), i' = .int .i64 k ∧ o = .slice A acc.length c ∧ k ≤ l.length ∧ acc.length ≤ k ∧
          OwnL encD wr w1.heap.size 166 A c acc ∧ Below w1.heap.size w1 wr ∧ dirsGo (l.drop k) acc = dirsGo l []) (fun _ i' _ => l.length - (intOf i').toNat)
    case atStart => exact ⟨0, [], none, 0, rfl, rfl, by omega, by simp, OwnL.nil _ _ _, Below.refl _ _, rfl⟩
    case round =>
      obtain ⟨k, acc, A, c, rfl, rfl, hk, hak, hown, hbel, heq⟩ := hrel
      have hbs := hbel.size
      by_cases hlt : k < l.length
      · obtain ⟨t, hx, hst⟩ := drop_step hlt
        have htl := htx t (List.mem_of_getElem? hx)
        obtain ⟨b, off, rfl, hbb, hcell⟩ := (Hread.out.below hbel (Nat.le_refl _)).at_S hx
        rw [hst, dirsGo] at heq
        have hdir := w_dir t htl
        generalize dirR t = d at hdir heq
        obtain ⟨⟨d1, d2, d3⟩, ok⟩ := d
        cases ok with
        | false =>
          rw [if_neg (by simp)] at heq
          have HR2 := Lib.hid (show R = .error 3 from by rw [HR.out]; exact ctlE_none hsp heq.symm)
          clear heq hx hst
          go_wp2_with (go_at_call 132; refine (hdir _).mono ?_; rintro e w2 ⟨rfl, hb2⟩)
          go_ret2
          rw [HR2.out]
          exact ⟨rfl, (hb1.trans (hbel.mono hs1)).trans ((hb2.mono (by omega)).alloc (by have := hb2.size; omega) _)⟩
        | true =>
          rw [if_pos rfl] at heq
          have Heq := Lib.hid heq
          clear heq hx hst
          go_wp2_with (first
            | (go_at_call 132; refine (hdir _).mono ?_; rintro e w2 ⟨rfl, hb2⟩
               have hs2 := hb2.size
               have hownB := (hown.below hb2 (Nat.le_refl _)).alloc (.cells #[S d1, .bool d2, S d3] 166))
            | (at_builtin; refine wpList_app encD sl_dir [(d1, d2, d3)] rfl _ _ rfl rfl hownB #[S d1, .bool d2, S d3] rfl 0 rfl (by first | rfl | (simp [go_sem]; done)) (by omega) (by simp only [maxLen]; omega) (by simp; omega) ?_; intro g' c'' w3 hown3 hg3 hb3 hbg))
          go_roundw
          case rel => exact ⟨k + 1, acc ++ [(d1, d2, d3)], some ⟨g', 0, none⟩, c'', by go_num, by simp, by omega, by simp; omega, hown3, ((hbel.trans (hb2.mono hbs)).alloc (by omega) _).trans hb3, Heq.out⟩
          case measure => simp [intOf]; omega
      · rw [drop_end hlt, dirsGo] at heq
        have HR2 := Lib.hid (show R = .ok acc from by rw [HR.out]; exact ctlE_some hsp heq.symm)
        clear heq
        go_wp2_with fail
        go_ret2
        rw [HR2.out]
        exact ⟨A, c, rfl, hown.base_le hs1, hb1.trans (hbel.mono hs1)⟩
end Go.Proofs.Ytmhhjmncbclihaa
