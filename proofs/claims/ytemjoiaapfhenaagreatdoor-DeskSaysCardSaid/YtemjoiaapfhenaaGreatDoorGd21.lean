/- WDk4, WDk5, WDk6, WDk7 -/
import Derived.Test.YtemjoiaapfhenaaGreatDoorGd02
import Derived.Test.YtemjoiaapfhenaaGreatDoorGd06
import Derived.Defers
import Derived.Recover
import Derived.Test.YtemjoiaapfhenaaGreatDoorGd20
import Derived.Test.YtemjoiaapfhenaaGreatDoorGd00
import Derived.Test.YtemjoiaapfhenaaGreatDoorGd09

/- WDk4 -/
section
namespace Go.Proofs.YtemjoiaapfhenaaGreatDoor
open Go.RowKit Go.Larder
set_option linter.unusedVariables false
set_option linter.unusedSimpArgs false
theorem catch_idle (p : Addr) (w : World) :
    CallsD Tryz.prog 11 #[.pointer (some p)] .returning w fun e u' w' => e = .returned (.tuple #[]) ∧ u' = .returning ∧ w' = w := by
  refine callsD_of_wpS Tryz.func11 rfl fun c₀ cs hu => ?_
  apply wpS_seq
  apply wpS_region
  simp [wpOpsS, go_sem, recoverD, hu, Tryz.ntmps11, Exit.thenS]
  refine wpS_of_wp ?_
  have hT : #[Value.pointer (some p)] ++ ((Array.replicate 18 undef).setIfInBounds 3 Value.nilIface).setIfInBounds 0 Value.nilIface = #[.pointer (some p), .nilIface, undef, undef, .nilIface, undef, undef, undef, undef, undef, undef, undef, undef, undef, undef, undef, undef, undef, undef] := by kernel_rfl
  rw [hT]
  go_wp2_with fail
  cases c₀
  simp_all [bodyPostS, results, Tryz.results11]
set_option maxRecDepth 100000 in
theorem catch_bad (gb : Nat) (n : Int) (hn : -9223372036854775808 ≤ n ∧ n ≤ 9223372036854775807) (x : Value) (older : List PanicEntry) (w : World) (hP : PW w) (hc : BoxAt w gb 9 [x]) :
    CallsD Tryz.prog 11 #[.pointer (some ⟨gb, 0, none⟩)] (.panicking ({ v := badV n, recovered := false } :: older)) w fun e u' w' =>
      e = .returned (.tuple #[]) ∧ u' = .panicking ({ v := badV n, recovered := true } :: older) ∧ ∃ w2, Below w.heap.size w w2 ∧ w' = w2.setCell ⟨gb, 0, none⟩ (S (errT ++ Lib.itoa n)) := by
  refine callsD_of_wpS Tryz.func11 rfl fun c₀ cs hu => ?_
  apply wpS_seq
  apply wpS_region
  simp [wpOpsS, go_sem, recoverD, hu, Tryz.ntmps11, Exit.thenS]
  refine wpS_of_wp ?_
  have hT : #[Value.pointer (some ⟨gb, 0, none⟩)] ++ ((Array.replicate 18 undef).setIfInBounds 3 (badV n)).setIfInBounds 0 (badV n) = #[.pointer (some ⟨gb, 0, none⟩), badV n, undef, undef, badV n, undef, undef, undef, undef, undef, undef, undef, undef, undef, undef, undef, undef, undef, undef] := by kernel_rfl
  rw [hT]
  have hta : ∀ w, (Instr.typeAssert (badV n) 20 34 true).run Tryz.prog w = .ok (.tuple #[.agg #[.int .i64 n], .bool true]) w := fun _ => by kernel_rfl
  have bx := BoxAt.new w [.int .i64 n] 34
  have q0 := bx.cell (j := 0) rfl
  have hbx : Below w.heap.size w (w.alloc (.cells #[.int .i64 n] 34)) := (Below.refl _ _).alloc (Nat.le_refl _) _
  have hit := w_Itoa n hn _ (hP.keep hbx)
  have hla := Lib.itoa_length_le n hn.1 hn.2
  generalize Lib.itoa n = I at *
  go_wp2_with (go_at_call 12; refine hit.mono ?_; rintro e w2 ⟨rfl, hb2⟩; have hB := hbx.trans (hb2.mono hbx.size); have b2 := hc.keep hB; have hc2 := b2.cell (j := 0) rfl; have hz2 := b2.free 0)
  cases c₀
  refine ⟨rfl, ?_⟩
  simp [bodyPostS, results, Tryz.results11]
  exact ⟨w2, hB, rfl⟩
end Go.Proofs.YtemjoiaapfhenaaGreatDoor
end

/- WDk5 -/
section
namespace Go.Proofs.YtemjoiaapfhenaaGreatDoor
open Go.RowKit Go.Larder
set_option linter.unusedVariables false
set_option linter.unusedSimpArgs false
theorem bindE_in {α β : Type} {x : Except Int α} {f : α → Except Int β} {n : Int} (h : bindE x f = .error n) (h1 : ∀ m, x = .error m → 1 ≤ m ∧ m ≤ 11) (h2 : ∀ a m, f a = .error m → 1 ≤ m ∧ m ≤ 11) : 1 ≤ n ∧ n ≤ 11 := by
  cases x with
  | error m => injection h with h; subst h; exact h1 _ rfl
  | ok a => exact h2 a n h
theorem pairE_in {t : Txd} {m n : Int} (h : pairE t m = .error n) (hm : m = 0 ∨ 1 ≤ m ∧ m ≤ 11) : 1 ≤ n ∧ n ≤ 11 := by
  unfold pairE at h
  split at h
  · cases h
  · injection h with h; omega
theorem no_ok {t : Txd} {n : Int} (h : (.ok t : Except Int Txd) = .error n) : 1 ≤ n ∧ n ≤ 11 := by cases h
theorem no_in {n : Int} (h : (.error 3 : Except Int Txd) = .error n) : 1 ≤ n ∧ n ≤ 11 := by injection h with h; omega
theorem quote_in {l : List Txd} {n : Int} (h : quoteD l = .error n) : 1 ≤ n ∧ n ≤ 11 := by
  unfold quoteD at h
  split at h
  · rename_i s; exact quoE_in h
  · exact no_in h
theorem unquote_in {l : List Txd} {n : Int} (h : unquoteD l = .error n) : 1 ≤ n ∧ n ≤ 11 := by
  unfold unquoteD at h
  split at h
  · rename_i s; exact pairE_in h (unq_in s)
  · exact no_in h
theorem split_in {l : List Txd} {n : Int} (h : splitD l = .error n) : 1 ≤ n ∧ n ≤ 11 := by
  unfold splitD at h
  split at h
  · rename_i s; exact bindE_in h (fun _ h => splitE_in h) (fun _ _ h => no_ok h)
  · exact no_in h
theorem date_in {l : List Txd} {n : Int} (h : dateD l = .error n) : 1 ≤ n ∧ n ≤ 11 := by
  unfold dateD at h
  split at h
  · rename_i s; exact bindE_in h (fun _ h => numE_in h) (fun _ _ h => dprE_in h)
  · exact no_in h
theorem time_in {l : List Txd} {n : Int} (h : timeD l = .error n) : 1 ≤ n ∧ n ≤ 11 := by
  unfold timeD at h
  split at h
  · rename_i s; exact pairE_in h (by unfold errI; split; exact .inl rfl; exact .inr (by decide))
  · exact no_in h
theorem normal_in {l : List Txd} {n : Int} (h : normalD l = .error n) : 1 ≤ n ∧ n ≤ 11 := by
  unfold normalD at h
  split at h
  · rename_i s; exact nrmE_in h
  · exact no_in h
theorem control_in {l : List Txd} {n : Int} (h : controlD l = .error n) : 1 ≤ n ∧ n ≤ 11 := by
  unfold controlD at h
  split at h
  · rename_i s; exact bindE_in h (fun _ h => ctlE_in h) (fun _ _ h => cpE_in h)
  · exact no_in h
theorem tag_in {l : List Txd} {n : Int} (h : tagD l = .error n) : 1 ≤ n ∧ n ≤ 11 := by
  unfold tagD at h
  split at h
  · rename_i s; exact (by unfold tagT at h; split at h; cases h; exact no_in h)
  · exact no_in h
theorem range_in {l : List Txd} {n : Int} (h : rangeD l = .error n) : 1 ≤ n ∧ n ≤ 11 := by
  unfold rangeD at h
  split at h
  · exact bindE_in h (fun _ h => numE_in h) (fun _ _ h => bindE_in h (fun _ h => spnE_in h) (fun _ _ h => bindE_in h (fun _ h => spanRes_in h) (fun _ _ h => no_ok h)))
  · exact no_in h
theorem cut_in {l : List Txd} {n : Int} (h : cutD l = .error n) : 1 ≤ n ∧ n ≤ 11 := by
  unfold cutD at h
  split at h
  · rename_i s; exact no_ok h
  · exact no_in h
theorem sum_in {l : List Txd} {n : Int} (h : sumD l = .error n) : 1 ≤ n ∧ n ≤ 11 := by
  unfold sumD at h
  split at h
  · rename_i s; exact no_ok h
  · exact no_in h
theorem crc_in {l : List Txd} {n : Int} (h : crcD l = .error n) : 1 ≤ n ∧ n ≤ 11 := by
  unfold crcD at h
  split at h
  · rename_i s; exact no_ok h
  · exact no_in h
theorem deskE_in {k : Txd} {l : List Txd} {n : Int} (h : deskE k l = .error n) : 1 ≤ n ∧ n ≤ 11 := by
  unfold deskE at h
  by_cases h0 : k = wd_quote
  · rw [if_pos h0] at h; exact quote_in h
  rw [if_neg h0] at h
  by_cases h1 : k = wd_unquote
  · rw [if_pos h1] at h; exact unquote_in h
  rw [if_neg h1] at h
  by_cases h2 : k = wd_split
  · rw [if_pos h2] at h; exact split_in h
  rw [if_neg h2] at h
  by_cases h3 : k = wd_date
  · rw [if_pos h3] at h; exact date_in h
  rw [if_neg h3] at h
  by_cases h4 : k = wd_time
  · rw [if_pos h4] at h; exact time_in h
  rw [if_neg h4] at h
  by_cases h5 : k = wd_normal
  · rw [if_pos h5] at h; exact normal_in h
  rw [if_neg h5] at h
  by_cases h6 : k = wd_control
  · rw [if_pos h6] at h; exact control_in h
  rw [if_neg h6] at h
  by_cases h7 : k = wd_tag
  · rw [if_pos h7] at h; exact tag_in h
  rw [if_neg h7] at h
  by_cases h8 : k = wd_range
  · rw [if_pos h8] at h; exact range_in h
  rw [if_neg h8] at h
  by_cases h9 : k = wd_cut
  · rw [if_pos h9] at h; exact cut_in h
  rw [if_neg h9] at h
  by_cases h10 : k = wd_sum
  · rw [if_pos h10] at h; exact sum_in h
  rw [if_neg h10] at h
  by_cases h11 : k = wd_crc
  · rw [if_pos h11] at h; exact crc_in h
  rw [if_neg h11] at h
  exact no_in h
theorem cmd_cases (k : Txd) : (getM cmdM k = none ∧ ∀ l, deskE k l = .error 3) ∨ ∃ f F, getM cmdM k = some (fnV f) ∧ CmdOk f F ∧ deskE k = F ∧ ∀ (args : Array Value) (w : World), (callFunc f args).run Tryz.prog w = .ok (.enter f args) w := by
  by_cases h0 : k = wd_quote
  · subst h0
    exact .inr ⟨38, quoteD, by unfold cmdM; rw [getM, if_pos rfl], w_c1, by funext l; unfold deskE; rw [if_pos rfl], enters_of Tryz.func38 (by kernel_rfl) rfl⟩
  by_cases h1 : k = wd_unquote
  · subst h1
    exact .inr ⟨42, unquoteD, by unfold cmdM; rw [getM, if_neg (by decide), getM, if_pos rfl], w_c2, by funext l; unfold deskE; rw [if_neg (by decide), if_pos rfl], enters_of Tryz.func42 (by kernel_rfl) rfl⟩
  by_cases h2 : k = wd_split
  · subst h2
    exact .inr ⟨44, splitD, by unfold cmdM; rw [getM, if_neg (by decide), getM, if_neg (by decide), getM, if_pos rfl], w_c3, by funext l; unfold deskE; rw [if_neg (by decide), if_neg (by decide), if_pos rfl], enters_of Tryz.func44 (by kernel_rfl) rfl⟩
  by_cases h3 : k = wd_date
  · subst h3
    exact .inr ⟨47, dateD, by unfold cmdM; rw [getM, if_neg (by decide), getM, if_neg (by decide), getM, if_neg (by decide), getM, if_pos rfl], w_c4, by funext l; unfold deskE; rw [if_neg (by decide), if_neg (by decide), if_neg (by decide), if_pos rfl], enters_of Tryz.func47 (by kernel_rfl) rfl⟩
  by_cases h4 : k = wd_time
  · subst h4
    exact .inr ⟨50, timeD, by unfold cmdM; rw [getM, if_neg (by decide), getM, if_neg (by decide), getM, if_neg (by decide), getM, if_neg (by decide), getM, if_pos rfl], w_c5, by funext l; unfold deskE; rw [if_neg (by decide), if_neg (by decide), if_neg (by decide), if_neg (by decide), if_pos rfl], enters_of Tryz.func50 (by kernel_rfl) rfl⟩
  by_cases h5 : k = wd_normal
  · subst h5
    exact .inr ⟨52, normalD, by unfold cmdM; rw [getM, if_neg (by decide), getM, if_neg (by decide), getM, if_neg (by decide), getM, if_neg (by decide), getM, if_neg (by decide), getM, if_pos rfl], w_c6, by funext l; unfold deskE; rw [if_neg (by decide), if_neg (by decide), if_neg (by decide), if_neg (by decide), if_neg (by decide), if_pos rfl], enters_of Tryz.func52 (by kernel_rfl) rfl⟩
  by_cases h6 : k = wd_control
  · subst h6
    exact .inr ⟨54, controlD, by unfold cmdM; rw [getM, if_neg (by decide), getM, if_neg (by decide), getM, if_neg (by decide), getM, if_neg (by decide), getM, if_neg (by decide), getM, if_neg (by decide), getM, if_pos rfl], w_c7, by funext l; unfold deskE; rw [if_neg (by decide), if_neg (by decide), if_neg (by decide), if_neg (by decide), if_neg (by decide), if_neg (by decide), if_pos rfl], enters_of Tryz.func54 (by kernel_rfl) rfl⟩
  by_cases h7 : k = wd_tag
  · subst h7
    exact .inr ⟨57, tagD, by unfold cmdM; rw [getM, if_neg (by decide), getM, if_neg (by decide), getM, if_neg (by decide), getM, if_neg (by decide), getM, if_neg (by decide), getM, if_neg (by decide), getM, if_neg (by decide), getM, if_pos rfl], w_c8, by funext l; unfold deskE; rw [if_neg (by decide), if_neg (by decide), if_neg (by decide), if_neg (by decide), if_neg (by decide), if_neg (by decide), if_neg (by decide), if_pos rfl], enters_of Tryz.func57 (by kernel_rfl) rfl⟩
  by_cases h8 : k = wd_range
  · subst h8
    exact .inr ⟨60, rangeD, by unfold cmdM; rw [getM, if_neg (by decide), getM, if_neg (by decide), getM, if_neg (by decide), getM, if_neg (by decide), getM, if_neg (by decide), getM, if_neg (by decide), getM, if_neg (by decide), getM, if_neg (by decide), getM, if_pos rfl], w_dranges, by funext l; unfold deskE; rw [if_neg (by decide), if_neg (by decide), if_neg (by decide), if_neg (by decide), if_neg (by decide), if_neg (by decide), if_neg (by decide), if_neg (by decide), if_pos rfl], enters_of Tryz.func60 (by kernel_rfl) rfl⟩
  by_cases h9 : k = wd_cut
  · subst h9
    exact .inr ⟨61, cutD, by unfold cmdM; rw [getM, if_neg (by decide), getM, if_neg (by decide), getM, if_neg (by decide), getM, if_neg (by decide), getM, if_neg (by decide), getM, if_neg (by decide), getM, if_neg (by decide), getM, if_neg (by decide), getM, if_neg (by decide), getM, if_pos rfl], w_c9, by funext l; unfold deskE; rw [if_neg (by decide), if_neg (by decide), if_neg (by decide), if_neg (by decide), if_neg (by decide), if_neg (by decide), if_neg (by decide), if_neg (by decide), if_neg (by decide), if_pos rfl], enters_of Tryz.func61 (by kernel_rfl) rfl⟩
  by_cases h10 : k = wd_sum
  · subst h10
    exact .inr ⟨63, sumD, by unfold cmdM; rw [getM, if_neg (by decide), getM, if_neg (by decide), getM, if_neg (by decide), getM, if_neg (by decide), getM, if_neg (by decide), getM, if_neg (by decide), getM, if_neg (by decide), getM, if_neg (by decide), getM, if_neg (by decide), getM, if_neg (by decide), getM, if_pos rfl], w_c10, by funext l; unfold deskE; rw [if_neg (by decide), if_neg (by decide), if_neg (by decide), if_neg (by decide), if_neg (by decide), if_neg (by decide), if_neg (by decide), if_neg (by decide), if_neg (by decide), if_neg (by decide), if_pos rfl], enters_of Tryz.func63 (by kernel_rfl) rfl⟩
  by_cases h11 : k = wd_crc
  · subst h11
    exact .inr ⟨66, crcD, by unfold cmdM; rw [getM, if_neg (by decide), getM, if_neg (by decide), getM, if_neg (by decide), getM, if_neg (by decide), getM, if_neg (by decide), getM, if_neg (by decide), getM, if_neg (by decide), getM, if_neg (by decide), getM, if_neg (by decide), getM, if_neg (by decide), getM, if_neg (by decide), getM, if_pos rfl], w_c11, by funext l; unfold deskE; rw [if_neg (by decide), if_neg (by decide), if_neg (by decide), if_neg (by decide), if_neg (by decide), if_neg (by decide), if_neg (by decide), if_neg (by decide), if_neg (by decide), if_neg (by decide), if_neg (by decide), if_pos rfl], enters_of Tryz.func66 (by kernel_rfl) rfl⟩
  refine .inl ⟨?_, fun l => ?_⟩
  · simp only [cmdM, getM, if_neg h0, if_neg h1, if_neg h2, if_neg h3, if_neg h4, if_neg h5, if_neg h6, if_neg h7, if_neg h8, if_neg h9, if_neg h10, if_neg h11]
  · simp only [deskE, if_neg h0, if_neg h1, if_neg h2, if_neg h3, if_neg h4, if_neg h5, if_neg h6, if_neg h7, if_neg h8, if_neg h9, if_neg h10, if_neg h11]
end Go.Proofs.YtemjoiaapfhenaaGreatDoor
end

/- WDk6 -/
section
namespace Go.Proofs.YtemjoiaapfhenaaGreatDoor
open Go.RowKit Go.Larder
set_option linter.unusedVariables false
set_option linter.unusedSimpArgs false
theorem mkF : ∀ (fn : Fn) (first cap : Array Value) (w : World), (Instr.makeFunc fn first cap).run Tryz.prog w = .ok (.func fn first cap) w := fun _ _ _ _ => rfl
theorem res_line (gb : Nat) (tmps : Array Value) (h2 : tmps.getD 2 undef = .pointer (some ⟨gb, 0, none⟩)) (v : Value) (w : World) (hc : w.cell? ⟨gb, 0, none⟩ = some v) : (results Tryz.f7 tmps).run Tryz.prog w = .ok v w := by
  have h3 : tmps[2]?.getD undef = .pointer (some ⟨gb, 0, none⟩) := by rw [← Array.getD_eq_getD_getElem?]; exact h2
  simp [results, Tryz.results7, h3, go_sem, hc]
theorem door_bad (T : Txd) (gb : Nat) (n : Int) (hT : T = shownE (.error n)) (hn : 1 ≤ n ∧ n ≤ 11) (tmps : Array Value) (h2 : tmps.getD 2 undef = .pointer (some ⟨gb, 0, none⟩)) (x : Value) (w w3 : World) (hgb : w.heap.size ≤ gb) (hP : PW w3) (bx : BoxAt w3 gb 9 [x]) (hB : Below w.heap.size w w3) :
    bodyPostD Tryz.prog Tryz.f7 (fun e w' => e = .returned (S T) ∧ Below w.heap.size w w') (Exit.panic [{ v := badV n, recovered := false }])
      { tmps := tmps, defers := [{ target := Target.fn (Fn.func 11) #[.pointer (some ⟨gb, 0, none⟩)], args := #[] }] } w3 := by
  refine leaves_cons (f := 11) (args := #[.pointer (some ⟨gb, 0, none⟩)]) (by simp) (by simp [go_sem]) ?_
  refine (catch_bad gb n (by omega) x [] w3 hP bx).mono ?_
  rintro e u' w' ⟨rfl, rfl, w2, hb2, rfl⟩
  have b2 := (bx.keep hb2).set 0 (S (errT ++ Lib.itoa n))
  refine ⟨_, res_line gb tmps h2 _ _ (b2.cell (j := 0) rfl), ?_, ?_⟩
  · rw [itoa_nn (by omega), hT]; rfl
  · exact (hB.trans (hb2.mono hB.size)).setCell (p := ⟨gb, 0, none⟩) hgb _
theorem door_ok (T : Txd) (gb : Nat) (t : Txd) (hT : T = shownE (.ok t)) (tmps : Array Value) (h2 : tmps.getD 2 undef = .pointer (some ⟨gb, 0, none⟩)) (w w3 : World) (bx : BoxAt w3 gb 9 [S t]) (hB : Below w.heap.size w w3) :
    bodyPostD Tryz.prog Tryz.f7 (fun e w' => e = .returned (S T) ∧ Below w.heap.size w w') Exit.ret
      { tmps := tmps, defers := [{ target := Target.fn (Fn.func 11) #[.pointer (some ⟨gb, 0, none⟩)], args := #[] }] } w3 := by
  refine leaves_cons (f := 11) (args := #[.pointer (some ⟨gb, 0, none⟩)]) (by simp) (by simp [go_sem]) ?_
  refine (catch_idle ⟨gb, 0, none⟩ w3).mono ?_
  rintro e u' w' ⟨rfl, rfl, rfl⟩
  exact ⟨_, res_line gb tmps h2 _ _ (bx.cell (j := 0) rfl), by rw [hT]; rfl, hB⟩
theorem zF {w : World} : (zeroValue 37).run Tryz.prog w = .ok .nilFunc w := by kernel_rfl
set_option maxHeartbeats 4000000 in
set_option maxRecDepth 100000 in
theorem w_dline (s : Txd) (hs : s.length ≤ 300) (w : World) (hD : DkW w) : Calls Tryz.prog 7 #[S s] w fun e w' => e = .returned (S (answD s)) ∧ Below w.heap.size w w' := by
  obtain ⟨k, r, hsp⟩ := spl_some 38 s
  have hans : answD s = shownE (deskE k r) := by unfold answD; rw [hsp]; rfl
  have hlen : (k :: r).length ≤ 301 := by
    rw [← hsp, spl_len]
    have := List.count_le_length (a := (38 : UInt8)) (l := s)
    omega
  have hmem : ∀ x ∈ k :: r, x.length ≤ 300 := fun x hx => by
    have := spl_mem_len (c := 38) (s := s) (by rw [hsp]; exact hx)
    omega
  have hmf := mkF
  have bx := BoxAt.new w [S []] 9
  have hB0 : Below w.heap.size w (w.alloc (.cells #[S []] 9)) := (Below.refl _ _).alloc (Nat.le_refl _) _
  have hst := w_Split s [38] (by omega) (by simp) _ (hD.keep hB0).2.1
  rw [split_spl, hsp] at hst
  rw [hans]
  clear hans
  rcases cmd_cases k with ⟨hg, hd⟩ | ⟨f, F, hg, hc, hd, hen⟩
  · rw [hd]
    go_enter_defers Tryz.func7, Tryz.ntmps7
    go_wp2_with (go_at_call 8; refine hst.mono ?_; rintro e w2 ⟨rfl, ho2, hb2⟩; have hB2 := hB0.trans (hb2.mono hB0.size); have bx2 := bx.keep hb2)
    obtain ⟨gl, ol, hA, hgl, hc0⟩ := ho2.read.at_S (k := 0) rfl
    obtain ⟨rfl, rfl⟩ : (w.alloc (.cells #[S []] 9)).heap.size = gl ∧ 0 = ol := by injection hA with hA; injection hA with h1 h2; exact ⟨h1, h2⟩
    simp only [Nat.add_zero, World.size_alloc] at hc0 hgl
    have hc0d : w2.drew.cell? ⟨w.heap.size + 1, 0, none⟩ = some (S k) := hc0
    have hnn : ∀ w, (binOp .eql 37 .nilFunc .nilFunc).run Tryz.prog w = .ok (.bool true) w := fun _ => by kernel_rfl
    first | go_region_with (go_at_call 13; refine Calls.mono (w_commands _) ?_; rintro e w3 ⟨g, rfl, hm3, hg3, hb3⟩; have hlk := run_lookup_none (P := Tryz.prog) Tryz.underlying38 Tryz.underlying9 hm3 k false zF hg; have hc3 : w3.cell? ⟨w.heap.size + 1, 0, none⟩ = some (S k) := (hb3.cell hgl).trans hc0d) | fail
    all_goals
      go_wp2_with (go_at_call 14; refine (w_dfailsN 3 (by decide) _).mono ?_; rintro e w4 ⟨rfl, hq⟩; obtain rfl := hq.symm)
      have hB3 := hB2.drew.trans (hb3.mono hB2.size)
      have bx3 := bx2.drew.keep hb3
      exact door_bad _ w.heap.size 3 rfl (by decide) _ rfl _ w _ (Nat.le_refl _) (hD.keep hB3).1 bx3 hB3
  · rw [hd]
    go_enter_defers Tryz.func7, Tryz.ntmps7
    go_wp2_with (go_at_call 8; refine hst.mono ?_; rintro e w2 ⟨rfl, ho2, hb2⟩; have hB2 := hB0.trans (hb2.mono hB0.size); have bx2 := bx.keep hb2)
    have hr2 := ho2.read
    obtain ⟨gl, ol, hA, hgl, hc0⟩ := ho2.read.at_S (k := 0) rfl
    obtain ⟨rfl, rfl⟩ : (w.alloc (.cells #[S []] 9)).heap.size = gl ∧ 0 = ol := by injection hA with hA; injection hA with h1 h2; exact ⟨h1, h2⟩
    simp only [Nat.add_zero, World.size_alloc] at hc0 hgl hr2
    have hc0d : w2.drew.cell? ⟨w.heap.size + 1, 0, none⟩ = some (S k) := hc0
    obtain ⟨A6, c6, hs6, hr6, hc6⟩ := sl_at hr2 (by simp) (Nat.le_refl (r.length + 1)) 1 1 rfl r.length rfl
    have hnn : ∀ w, (binOp .eql 37 (fnV f) .nilFunc).run Tryz.prog w = .ok (.bool false) w := fun _ => by kernel_rfl
    first | go_region_with (go_at_call 13; refine Calls.mono (w_commands _) ?_; rintro e w3 ⟨g, rfl, hm3, hg3, hb3⟩; have hlk := run_lookup_S (P := Tryz.prog) (i := 0) Tryz.underlying38 Tryz.underlying9 hm3 k false hg; have hc3 : w3.cell? ⟨w.heap.size + 1, 0, none⟩ = some (S k) := (hb3.cell hgl).trans hc0d) | fail
    all_goals
      have hB3 := hB2.drew.trans (hb3.mono hB2.size)
      have bx3 := bx2.drew.keep hb3
      have hrd : ReadL encS w3 w3.heap.size A6 r := by
        have h3 := ReadL.below (w := w2.drew) hr6 hb3 (Nat.le_refl _)
        intro hp
        obtain ⟨b, off, h4, h5, h6⟩ := h3 hp
        exact ⟨b, off, h4, Nat.lt_of_lt_of_le h5 hb3.size, h6⟩
      have hcall := (hc r A6 c6 w3 hrd (by simp only [List.length_cons] at hlen; omega) (fun x hx => by have := hmem x (List.mem_cons_of_mem _ hx); omega) (hD.keep hB3))
      cases hF : F r with
      | ok t =>
        rw [hF] at hcall
        unfold Told at hcall
        simp only at hcall
        clear hlk hm3
        go_wp2_with fail
        refine hcall.mono ?_
        rintro e w5 ⟨rfl, hb5⟩
        have bx5 := bx3.keep hb5
        have q5 := bx5.cell (j := 0) rfl
        have f5 := bx5.free 0
        go_wp2_with fail
        refine door_ok _ w.heap.size t (by rw [hF]) _ ?_ w _ (bx5.set 0 (S t)) ((hB3.trans (hb5.mono hB3.size)).setCell (p := ⟨w.heap.size, 0, none⟩) (Nat.le_refl _) _)
        rfl
      | error n =>
        have hn := deskE_in (k := k) (l := r) (n := n) (by rw [hd]; exact hF)
        rw [hF] at hcall
        unfold Told at hcall
        simp only at hcall
        clear hlk hm3
        go_wp2_with fail
        refine hcall.mono ?_
        rintro e w5 ⟨⟨rfl, hne⟩, hb5⟩
        have hB5 := hB3.trans (hb5.mono hB3.size)
        refine door_bad _ w.heap.size n (by rw [hF]) hn _ ?_ _ w _ (Nat.le_refl _) (hD.keep hB5).1 (bx3.keep hb5) hB5
        rfl
end Go.Proofs.YtemjoiaapfhenaaGreatDoor
end

/- WDk7 -/
section
namespace Go.Proofs.YtemjoiaapfhenaaGreatDoor
open Go.RowKit Go.Larder
set_option linter.unusedVariables false
set_option linter.unusedSimpArgs false
def longD (l : List Txd) : Bool := decide (60 < l.length) || l.any fun s => decide (300 < s.length)
/-- what a desk answers to lines -/
noncomputable def runD (l : List Txd) : Except Int (List Txd) := if longD l = true then .error 2 else .ok (l.map answD)
theorem any_long {l : List Txd} {k : Nat} {x : Txd} (h : l[k]? = some x) (hx : 300 < x.length) : longD l = true := by
  unfold longD
  rw [Bool.or_eq_true]
  exact .inr (List.any_eq_true.2 ⟨x, List.mem_of_getElem? h, by simpa using hx⟩)
theorem not_long {l : List Txd} (h0 : ¬ 60 < l.length) (h : ∀ (k : Nat) (x : Txd), l[k]? = some x → ¬ 300 < x.length) : longD l = false := by
  unfold longD
  rw [Bool.or_eq_false_iff]
  refine ⟨by simpa using h0, ?_⟩
  rw [Bool.eq_false_iff]
  intro hh
  obtain ⟨x, hx, h3⟩ := List.any_eq_true.1 hh
  obtain ⟨k, hk⟩ := List.getElem?_of_mem hx
  exact h k x hk (by simpa using h3)
theorem dan_snoc {l : List Txd} {k : Nat} {x : Txd} (h : l[k]? = some x) : (l.take (k + 1)).map answD = (l.take k).map answD ++ [answD x] := by
  rw [List.take_add_one, h]; simp
set_option maxHeartbeats 4000000 in
theorem w_DRun (l : List Txd) (hl : l.length ≤ 140737488351232) (A : Option Addr) (c : Nat) (w : World) (hr : ReadL encS w w.heap.size A l) (hD : DkW w) :
    Calls Tryz.prog 4 #[.slice A l.length c] w (SlPost encS 9 w (runD l)) := by
  obtain ⟨R, hR⟩ : ∃ R, runD l = R := ⟨_, rfl⟩
  rw [hR]
  unfold runD at hR
  have HR := Lib.hid hR
  clear hR
  by_cases h60 : 60 < l.length
  · have Hq := Lib.hid (show R = .error 2 from by rw [← HR.out, if_pos (by unfold longD; rw [Bool.or_eq_true]; exact .inl (by simpa using h60))])
    have hI : (60 : Int) < (l.length : Int) := by omega
    clear HR
    go_enter Tryz.func4, Tryz.ntmps4
    go_wp2_with fail
    go_ret2
    rw [Hq.out]
    exact ⟨rfl, Below.refl _ _⟩
  · have hI : ¬ (60 : Int) < (l.length : Int) := by omega
    go_enter Tryz.func4, Tryz.ntmps4
    go_wp2_with fail
    go_loopw [14] (fun i' wr => ∃ (k : Nat), i' = .int .i64 k ∧ k ≤ l.length ∧ wr = w ∧ Hid (∀ (j : Nat) (x : Txd), j < k → l[j]? = some x → ¬ 300 < x.length)) (fun i' _ => l.length - (intOf i').toNat)
    case atStart => exact ⟨0, rfl, by omega, rfl, Lib.hid (fun j x h => by omega)⟩
    case round =>
      obtain ⟨k, rfl, hk, rfl, Hs⟩ := hrel
      by_cases hlt : k < l.length
      · obtain ⟨x, hx, _⟩ := drop_step hlt
        obtain ⟨g, off, rfl, hgb, hc0⟩ := hr.at_S hx
        by_cases h3 : 300 < x.length
        · have Hq := Lib.hid (show R = .error 2 from by rw [← HR.out, if_pos (any_long hx h3)])
          have h3I : (300 : Int) < (x.length : Int) := by omega
          clear HR hx
          go_wp2_with fail
          go_ret2
          rw [Hq.out]
          exact ⟨rfl, Below.refl _ _⟩
        · have h3I : ¬ (300 : Int) < (x.length : Int) := by omega
          have Hs2 := Lib.hid (show ∀ (j : Nat) (y : Txd), j < k + 1 → l[j]? = some y → ¬ 300 < y.length from fun j y hj hy => by
            by_cases hjk : j = k
            · subst hjk; rw [hx] at hy; injection hy with hy; subst hy; exact h3
            · exact Hs.out j y (by omega) hy)
          clear hx
          go_wp2_with fail
          go_roundw
          case rel => exact ⟨k + 1, by go_num, by omega, by first | rfl | trivial, Hs2⟩
          case measure => simp [intOf]; omega
      · obtain rfl : k = l.length := by omega
        have Hq := Lib.hid (show R = .ok (l.map answD) from by
          rw [← HR.out, if_neg]
          rw [not_long h60 fun j x hj => Hs.out j x (List.getElem?_eq_some_iff.1 hj).1 hj]
          simp)
        have Hl := Lib.hid (fun x (hx : x ∈ l) => (show x.length ≤ 300 from by
          obtain ⟨j, hj⟩ := List.getElem?_of_mem hx
          have := Hs.out j x (List.getElem?_eq_some_iff.1 hj).1 hj
          omega))
        clear HR Hs
        go_wp2_with fail
        go_loopw [6, 24] (fun o i' wq => ∃ (k : Nat) (out : List Txd) (A2 : Option Addr) (c2 : Nat), i' = .int .i64 k ∧ o = .slice A2 out.length c2 ∧ k ≤ l.length ∧ out.length ≤ k ∧ OwnL encS wq wr.heap.size 9 A2 c2 out ∧ Below wr.heap.size wr wq ∧ Hid (out = (l.take k).map answD)) (fun _ i' _ => l.length - (intOf i').toNat)
        case atStart => exact ⟨0, [], none, 0, rfl, rfl, by omega, by simp, OwnL.nil _ _ _, Below.refl _ _, Lib.hid rfl⟩
        case round =>
          obtain ⟨k, out, A2, c2, rfl, rfl, hk, hok, hown, hbel, Ho⟩ := hrel
          have hbs := hbel.size
          by_cases hlt : k < l.length
          · obtain ⟨x, hx, _⟩ := drop_step hlt
            have hline := w_dline x (Hl.out x (List.mem_of_getElem? hx)) _ (hD.keep hbel)
            obtain ⟨g, off, rfl, hgb, hc0⟩ := (hr.below hbel (Nat.le_refl _)).at_S hx
            have Hsn := Lib.hid (dan_snoc hx)
            generalize answD x = a at hline Hsn
            clear hx
            go_wp2_with (first
              | (go_at_call 7; refine hline.mono ?_; rintro e w5 ⟨rfl, hb5⟩; have hB5 := hbel.trans (hb5.mono hbs); have hown5 := hown.below hb5 (Nat.le_refl _))
              | (at_builtin; refine wpList_app encS sl_strDk [_] rfl _ _ rfl rfl hown5 #[S _] rfl 0 rfl (by first | rfl | (simp [go_sem]; done)) (by omega) (by simp only [maxLen]; omega) hB5.size ?_; intro g' c'' w6 hown6 hg6 hb6 hbg))
            go_roundw
            case rel => exact ⟨k + 1, _, _, _, by go_num, by simp, by omega, by simp; omega, hown6, hB5.trans hb6, Lib.hid (by rw [Hsn.out, ← Ho.out])⟩
            case measure => simp [intOf]; omega
          · obtain rfl : k = l.length := by omega
            have Hq2 := Lib.hid (show R = .ok out from by rw [Hq.out, Ho.out, List.take_length])
            clear Hq Ho
            go_wp2_with fail
            go_ret2
            rw [Hq2.out]
            exact ⟨A2, c2, rfl, hown, hbel⟩
end Go.Proofs.YtemjoiaapfhenaaGreatDoor
end
