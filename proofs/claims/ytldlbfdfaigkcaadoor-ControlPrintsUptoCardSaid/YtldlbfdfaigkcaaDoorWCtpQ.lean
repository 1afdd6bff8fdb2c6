/- Walk: directives, printed: the program's. -/
import Derived.Test.YtldlbfdfaigkcaaDoorWCtpP
import Derived.Test.YtldlbfdfaigkcaaDoorWJoin
import Derived.Test.YtldlbfdfaigkcaaDoorSpecGet
import Derived.Test.YtldlbfdfaigkcaaDoorEncD
import Derived.Test.YtldlbfdfaigkcaaDoorApp
namespace Go.Proofs.YtldlbfdfaigkcaaDoor
open Go.RowKit Go.Larder
set_option linter.unusedVariables false
set_option linter.unusedSimpArgs false


theorem sl_strC : SlT Tryd.prog 63 9 1 16 := SlT.mk' (z := .string ByteArray.empty) Tryd.underlying63 (by kernel_rfl) rfl
abbrev dW (f : Dr) : Nat := f.1.length + f.2.2.length + 4
theorem dW_mem {l : List Dr} (h : (l.map dW).sum ≤ 1048576) : ∀ f ∈ l, f.1.length ≤ 1048576 ∧ f.2.2.length ≤ 1048576 := by
  induction l with
  | nil => simp
  | cons a l ih =>
    intro f hf
    rw [List.map_cons, List.sum_cons] at h
    have hd : dW a = a.1.length + a.2.2.length + 4 := rfl
    rcases List.mem_cons.1 hf with rfl | hf
    · omega
    · exact ih (by omega) f hf
theorem dW_len {l : List Dr} (h : (l.map dW).sum ≤ 1048576) : l.length ≤ 1048576 := by
  have : ∀ l : List Dr, l.length ≤ (l.map dW).sum := by
    intro l
    induction l with
    | nil => simp
    | cons a l ih =>
      rw [List.map_cons, List.sum_cons, List.length_cons]
      have hd : dW a = a.1.length + a.2.2.length + 4 := rfl
      omega
  have := this l
  omega
theorem cp_err {d : Dr} {l : List Dr} {ts : List (List UInt8)} {e : Int} (h : dirE d = .error e) : cpGo (d :: l) ts = .error e := by unfold cpGo; rw [h]
theorem cp_ok {d : Dr} {l : List Dr} {ts : List (List UInt8)} {t : List UInt8} (h : dirE d = .ok t) : cpGo (d :: l) ts = cpGo l (ts ++ [t]) := by
  conv => lhs; unfold cpGo
  rw [h]

set_option maxHeartbeats 4000000 in
theorem w_CPrint (l : List Dr) (hsum : (l.map dW).sum ≤ 1048576) (A : Option Addr) (c : Nat) (w : World) (hr : ReadL encD w w.heap.size A l) :
    Calls Tryd.prog 19 #[.slice A l.length c] w (StPost w (cpE l)) := by
  have hmem := dW_mem hsum
  have hl := dW_len hsum
  unfold cpE
  obtain ⟨R, hR⟩ : ∃ R, cpGo l [] = R := ⟨_, rfl⟩
  rw [hR]
  have HR := Lib.hid hR
  clear hR
  go_enter Tryd.func19, Tryd.ntmps19
  go_wp2_with fail
  go_loopw [4, 12] (fun o i' wr => ∃ (k : Nat) (ts : List (List UInt8)) (A2 : Option Addr) (c2 : Nat), i' = .int .i64 k ∧ o = .slice A2 ts.length c2 ∧ k ≤ l.length ∧ ts.length ≤ k ∧ OwnL encS wr w.heap.size 9 A2 c2 ts ∧ Below w.heap.size w wr ∧ Hid ((ts.map (fun v => v.length + 2)).sum + 2 * ((l.drop k).map dW).sum ≤ 2097152) ∧ Hid (cpGo (l.drop k) ts = R)) (fun _ i' _ => l.length - (intOf i').toNat)
  case atStart => exact ⟨0, [], none, 0, rfl, rfl, by omega, by simp, OwnL.nil _ _ _, Below.refl _ _, Lib.hid (by simp; omega), HR⟩
  case round =>
    obtain ⟨k, ts, A2, c2, rfl, rfl, hk, htk, hown, hbel, hsm, heq⟩ := hrel
    have hbs := hbel.size
    by_cases hlt : k < l.length
    · obtain ⟨⟨n, b, a⟩, hx, hs⟩ := drop_step hlt
      obtain ⟨hn, ha⟩ := hmem _ (List.mem_of_getElem? hx)
      obtain ⟨g, off, rfl, hgb, hc0, hc1, hc2⟩ := (hr.below hbel (Nat.le_refl _)).at_D hx
      simp only at hn ha hc0 hc1 hc2
      have heq2 := heq.out
      have hsm2 := hsm.out
      rw [hs] at heq2 hsm2
      have ht := fun w => w_text n a b hn ha w
      have hB1 := hbel.alloc hbs (.cells #[S n, .bool b, S a] 80)
      cases hd : dirE (n, b, a) with
      | error e =>
        rw [cp_err hd] at heq2
        simp only [hd] at ht
        have Hq := Lib.hid heq2.symm
        have he := dir_err hd
        clear heq2 hsm2 hs hx hd
        go_wp2_with (go_at_call 51; refine (ht _).mono ?_; rintro e1 w1 ⟨rfl, hb1⟩)
        go_ret2
        rw [Hq.out]
        exact ⟨rfl, hB1.trans (hb1.mono hB1.size)⟩
      | ok t =>
        rw [cp_ok hd] at heq2
        simp only [hd] at ht
        have Hq := Lib.hid heq2
        have htl := dir_len hd
        simp only at htl
        have Hsm := Lib.hid (show ((ts ++ [t]).map (fun v => v.length + 2)).sum + 2 * ((l.drop (k + 1)).map dW).sum ≤ 2097152 from by
          simp only [List.map_cons, List.sum_cons, dW] at hsm2
          simp only [List.map_append, List.map_cons, List.map_nil, List.sum_append, List.sum_cons, List.sum_nil, dW]
          omega)
        clear heq2 hsm2 hs hx hd hsm
        go_wp2_with (first
          | (go_at_call 51; refine (ht _).mono ?_; rintro e1 w1 ⟨rfl, hb1⟩
             have hB2 := hB1.trans (hb1.mono hB1.size)
             have hown2 := (hown.alloc (.cells #[S n, .bool b, S a] 80)).below hb1 (Nat.le_refl _))
          | (at_builtin; refine wpList_app encS sl_strC [t] rfl _ _ rfl rfl hown2 #[S t] rfl 0 rfl (by first | rfl | (simp [go_sem]; done)) (by omega) (by simp only [maxLen]; omega) hB2.size ?_; intro g' c'' w5 hown5 hg5 hb5 hbg))
        go_roundw
        case rel => exact ⟨k + 1, ts ++ [t], _, _, by go_num, by simp, by omega, by simp; omega, hown5, hB2.trans hb5, Hsm, Hq⟩
        case measure => simp [intOf]; omega
    · have heq2 := heq.out
      have hsm2 := hsm.out
      rw [drop_end hlt] at heq2 hsm2
      have Hq : Hid (R = .ok ts) := Lib.hid heq2.symm
      have hjl : (Lib.join ts [44, 32]).length ≤ 2097152 := by
        have := join_len_le ts
        simp only [sepL] at this
        simp at hsm2
        omega
      have hrd := hown.read
      have hcap := hown.le_cap
      clear heq2 hsm2 heq hsm
      have hjn := fun w hr => w_Join ts [44, 32] A2 c2 _ w hr (Nat.le_refl _) hcap (by omega) (by omega)
      have hend : cpEnd (.ok ts) = if 20 < ts.length ∨ 1000 < (Lib.join ts [44, 32]).length then .error 2 else .ok (Lib.join ts [44, 32]) := rfl
      generalize Lib.join ts [44, 32] = j at hjl hjn hend
      by_cases h20 : 20 < ts.length
      · have He := Lib.hid (show cpEnd R = .error 2 from by rw [Hq.out, hend, if_pos (.inl h20)])
        clear hend
        go_wp2_with (go_at_call 48; refine (hjn _ hrd).mono ?_; rintro e w2 ⟨rfl, hb2⟩)
        go_ret2
        rw [He.out]
        exact ⟨rfl, hbel.trans (hb2.mono hbs)⟩
      · by_cases h1000 : 1000 < j.length
        · have He := Lib.hid (show cpEnd R = .error 2 from by rw [Hq.out, hend, if_pos (.inr h1000)])
          clear hend
          go_wp2_with (go_at_call 48; refine (hjn _ hrd).mono ?_; rintro e w2 ⟨rfl, hb2⟩)
          go_ret2
          rw [He.out]
          exact ⟨rfl, hbel.trans (hb2.mono hbs)⟩
        · have He := Lib.hid (show cpEnd R = .ok j from by rw [Hq.out, hend, if_neg (by omega)])
          clear hend
          go_wp2_with (go_at_call 48; refine (hjn _ hrd).mono ?_; rintro e w2 ⟨rfl, hb2⟩)
          go_ret2
          rw [He.out]
          exact ⟨rfl, hbel.trans (hb2.mono hbs)⟩
end Go.Proofs.YtldlbfdfaigkcaaDoor
