/- WNrmU, WNrmR -/
import Derived.Test.YtemjoiaapfhenaaGreatDoorGd08
import Derived.Test.YtemjoiaapfhenaaGreatDoorGd00
import Derived.Test.YtemjoiaapfhenaaGreatDoorGd02
import Derived.Deep.LoopGhost

/- WNrmU -/
section
namespace Go.Proofs.YtemjoiaapfhenaaGreatDoor
open Go.RowKit Go.Larder
set_option linter.unusedVariables false
set_option linter.unusedSimpArgs false
def UnPostN (w : World) (r : Option (List EB)) (e : Ending) (w' : World) : Prop :=
  (match r with
    | none => e = .returned (.tuple #[S [], .slice none 0 0, .bool false])
    | some ps => ∃ A c, e = .returned (.tuple #[S (ps.map Prod.fst), .slice A ps.length c, .bool true]) ∧ OwnL encO w' w.heap.size 4 A c (ps.map Prod.snd)) ∧ Below w.heap.size w w'

set_option maxHeartbeats 4000000 in
set_option maxRecDepth 100000 in
theorem w_unescapedN (l : List UInt8) (hl : l.length ≤ 200) (w : World) :
    Calls Tryz.prog 82 #[S l] w (UnPostN w (unP l [])) := by
  obtain ⟨R, hR⟩ : ∃ R, R = unP l [] := ⟨_, rfl⟩
  rw [← hR]
  have HR := Lib.hid hR
  clear hR
  go_enter Tryz.func82, Tryz.ntmps82
  go_wp2_with fail
  go_loopw [0, 5, 6] (fun s o ws wr => ∃ (rest acc : List UInt8) (bs : List Bool) (ps : List EB) (A : Option Addr) (c : Nat), s = S rest ∧ o = S acc ∧ ws = .slice A bs.length c ∧ rest.length + acc.length ≤ 200 ∧ bs.length = acc.length ∧ OwnL encO wr w.heap.size 4 A c bs ∧ Below w.heap.size w wr ∧ Hid (acc = ps.map Prod.fst ∧ bs = ps.map Prod.snd) ∧ unP rest ps = unP l []) (fun s _ _ _ => lenOf s)
  case atStart => exact ⟨l, [], [], [], none, 0, rfl, rfl, rfl, by simpa using hl, rfl, OwnL.nil _ _ _, Below.refl _ _, Lib.hid ⟨rfl, rfl⟩, rfl⟩
  case round =>
    obtain ⟨rest, acc, bs, ps, A, c, rfl, rfl, rfl, hlen, hbl, hown, hbel, hps, heq⟩ := hrel
    have hbs := hbel.size
    have hbl1 : bs.length ≤ 200 := by omega
    have Hbl := Lib.hid hbl
    clear hbl
    rcases rest with _ | ⟨x, r⟩
    · rw [unP_nil] at heq
      have HR2 := Lib.hid (show R = some ps from by rw [HR.out]; exact heq.symm)
      clear heq
      go_wp2_with fail
      go_ret3
      rw [HR2.out]
      exact ⟨⟨A, c, by rw [hps.out.1, hps.out.2, List.length_map]; rfl, by rw [← hps.out.2]; exact hown⟩, hbel⟩
    · by_cases h37 : x = 37
      · subst h37
        by_cases hsh : r.length < 2
        · rw [unP_short hsh] at heq
          have HR2 := Lib.hid (show R = none from by rw [HR.out]; exact heq.symm)
          clear heq
          have a1 : ((r.length : Int) + 1) < 3 := by omega
          have a2 : r.length + 1 < 3 := by omega
          go_wp2_with fail
          go_ret3
          rw [HR2.out]
          exact ⟨rfl, hbel⟩
        · rcases r with _ | ⟨a, _ | ⟨b, r⟩⟩
          · simp at hsh
          · simp at hsh
          · simp only [List.length_cons] at hlen
            have hall := all2 (a := a) (b := b) (t := hexTab)
            rw [hexv_tab, hexv_tab] at hall
            have a1 : ¬ ((r.length : Int) + 1 + 1 + 1) < 3 := by omega
            have a2 : ¬ r.length + 1 + 1 + 1 < 3 := by omega
            have a3 : 3 ≤ r.length + 1 + 1 + 1 := by omega
            have n2 : acc.length + 1 ≤ 9223372036854775807 := by omega
            have n3 : acc.length < 9223372036854775807 := by omega
            have hrun : ∀ (b : UInt8) (w : World), (Op.stringOp .add ⟨acc.toArray⟩ ⟨#[b]⟩).run Tryz.prog w = .ok (.string ⟨(acc ++ [b]).toArray⟩) w := fun b w => cat1 acc b (by omega) w
            by_cases hh : 0 ≤ hexv a ∧ 0 ≤ hexv b
            · have hall2 : [a, b].all (inTab hexTab) = true := by rw [hall]; simp [hh.1, hh.2]
              obtain ⟨n, hn, hnv, hby⟩ := byteOf_eq hh.1 hh.2
              rw [unP_esc hh.1 hh.2, hby] at heq
              have i1 := hexv_low a hh.1
              have i2 := hexv_low b hh.2
              have l1 := hexv_lt a
              have l2 := hexv_lt b
              have hh1 := hh.1
              have hh2 := hh.2
              have v1 : IntKind.i64.wrap (16 * hexv a) = 16 * hexv a := IntWalk.i64_in _ ⟨by omega, by omega⟩
              have v2 : IntKind.i64.wrap (16 * hexv a + hexv b) = (n : Int) := by rw [hnv]; exact IntWalk.i64_in _ ⟨by omega, by omega⟩
              have hlow : lowL [a, b] = [lowB a, lowB b] := rfl
              have hallw := w_allOf [a, b] hexTab (by simp)
              rw [hall2] at hallw
              have hloww := w_LowerR [a, b] (by simp)
              rw [hlow] at hloww
              have hchr := fun w => w_chr n hn w
              clear hby hnv
              generalize UInt8.ofNat n = bt at heq hchr
              have Heq := Lib.hid heq
              clear heq hall
              have c1 : (⟨#[bt]⟩ : ByteArray).size = 1 := rfl
              go_wp2_with (first
                | (go_at_call 79; refine (hallw _).mono ?_; rintro e w' ⟨rfl, rfl⟩)
                | (go_at_call 88; refine (hloww _).mono ?_; rintro e w' ⟨rfl, rfl⟩))
              go_region_with (go_at_call 99; refine (c1_IndexByte hexL _ _).mono ?_; rintro e w' ⟨rfl, rfl⟩)
              all_goals go_wp2_with fail
              all_goals
                go_region_held3 (fun w' => Below w.heap.size w w') ((first | assumption | (refine chainAW ?_ _; first | assumption | (simp_all; done)) | (refine Below.drew (chainAW ?_ _); first | assumption | (simp_all; done)) | go_grown))
                  (first
                    | (go_at_call 36; refine (hchr _).mono ?_; rintro e w7 ⟨rfl, hb7⟩; have hK7 : Below w.heap.size w w7 := chainW (by first | assumption | exact chainAW (by assumption) _ | go_grown) hb7; (try have hown7 : OwnL encO w7 w.heap.size 4 A c bs := OwnL.below (by first | exact hown | exact hown.alloc _ | exact OwnL.alloc (w := wr.drew) hown _ | exact OwnL.alloc (w := wr.drew.drew) hown _) hb7 (Nat.le_refl _)))
                    | (refine step_app_sl (l := bs) encO sl_bool [true] (by rfl) _ _ (by rfl) (by rfl) (by first | exact hown | exact hown.alloc _ | exact OwnL.alloc (w := wr.drew) hown _ | exact OwnL.alloc (w := wr.drew.drew) hown _ | exact hown7 | exact hown7.alloc _) (by rfl) (by first | exact ReadL.lit (E := encO) _ #[.bool true] _ [true] rfl | exact (show ReadL encO (wr.alloc (.cells #[.bool true] 4)).drew.drew (wr.heap.size + 1) _ [true] from ReadL.lit (E := encO) wr #[.bool true] _ [true] rfl).below hb7 (by show wr.heap.size + 1 ≤ (wr.heap.push _).size; simp)) (by simp; omega) (by simp [maxLen]; omega) (by first | (simp; omega) | (have := hK7.size; simp; omega) | (have := hK7.size; omega)) ?_; intro A4 c4 w4 ho4 hb4; have hK4 : Below w.heap.size w w4 := Below.trans (by first | assumption | exact chainAW (by assumption) _ | go_grown) hb4))
              all_goals go_wp2
              all_goals exact ⟨⟨r, acc ++ [bt], bs ++ [true], ps ++ [(bt, true)], A4, c4, by first | rfl | (simp; done), by first | rfl | (simp; done), by simp, by simp; omega, by simp [Hbl.out], by first | exact ho4 | exact ho4.below hb7 (Nat.le_refl _), by first | exact hK4 | exact hK7 | go_grown, Lib.hid ⟨by rw [hps.out.1]; simp, by rw [hps.out.2]; simp⟩, Heq.out⟩, by simp [lenOf, ba_size]; omega⟩
            · have hall2 : [a, b].all (inTab hexTab) = false := by
                rw [hall]
                rw [Bool.eq_false_iff]
                intro h
                simp at h
                exact hh h
              rw [unP_bad hh] at heq
              have HR2 := Lib.hid (show R = none from by rw [HR.out]; exact heq.symm)
              have hallw := w_allOf [a, b] hexTab (by simp)
              rw [hall2] at hallw
              clear heq hall
              go_wp2_with (go_at_call 79; refine (hallw _).mono ?_; rintro e w' ⟨rfl, rfl⟩)
              go_ret3
              rw [HR2.out]
              exact ⟨rfl, hbel⟩
      · rw [unP_plain h37] at heq
        have h37b : ¬ (x.toNat : Int) = 37 := by
          intro h
          exact h37 (UInt8.toNat_inj.1 (by show x.toNat = 37; omega))
        have h37c : ((x.toNat : Int) == 37) = false := by simpa using h37b
        have Heq := Lib.hid heq
        clear heq
        simp only [List.length_cons] at hlen
        have n2 : acc.length + 1 ≤ 9223372036854775807 := by omega
        have n3 : acc.length < 9223372036854775807 := by omega
        have hrun : ∀ (b : UInt8) (w : World), (Op.stringOp .add ⟨acc.toArray⟩ ⟨#[b]⟩).run Tryz.prog w = .ok (.string ⟨(acc ++ [b]).toArray⟩) w := fun b w => cat1 acc b (by omega) w
        have p1 : (1 : Int) ≤ (r.length : Int) + 1 := by omega
        have p2 : (0 : Int) ≤ (r.length : Int) := by omega
        have p3 : 1 ≤ r.length + 1 := by omega
        go_wp2_with fail
        go_region_held3 (fun _ => True) (trivial)
          ((refine step_app_sl (l := bs) encO sl_bool [false] (by rfl) _ _ (by rfl) (by rfl) (by first | exact hown | exact hown.alloc _) (by rfl) (by first | exact ReadL.lit _ _ _ _ rfl) (by simp; omega) (by simp [maxLen]; omega) (by first | (simp; omega) | (show w.heap.size ≤ (wr.heap.push _).size; simp; omega)) ?_; intro A4 c4 w4 ho4 hb4))
        all_goals go_wp2
        all_goals exact ⟨⟨r, acc ++ [x], bs ++ [false], ps ++ [(x, false)], A4, c4, rfl, rfl, by simp, by simp; omega, by simp [Hbl.out], ho4, Below.trans (by go_grown) hb4, Lib.hid ⟨by rw [hps.out.1]; simp, by rw [hps.out.2]; simp⟩, Heq.out⟩, by simp [lenOf, ba_size]⟩

end Go.Proofs.YtemjoiaapfhenaaGreatDoor
end

/- WNrmR -/
section
namespace Go.Proofs.YtemjoiaapfhenaaGreatDoor
open Go.RowKit Go.Larder
set_option linter.unusedVariables false
set_option linter.unusedSimpArgs false
theorem run_slS (w : World) (A : Option Addr) (n c k : Nat) (hk : k ≤ n) : (Instr.slice 22 (.slice A n c) (some (.int .i64 (k : Int))) none none).run Tryz.prog w = .ok (.slice (if c = k then A else A.map (·.add k)) (n - k) (c - k)) w := by
  have he : Program.elem Tryz.prog 22 = 9 := by kernel_rfl
  rw [run_slice_l w 22 A n c (by rw [he]; exact Tryz.underlying22) .i64 (k : Int) (by omega) (by omega), he, Tryz.sizeOf9]
  simp [Result.andThen, sliced]
theorem read_sliced {w : World} {B : Nat} {A : Option Addr} {l : List (List UInt8)} {c : Nat} (h : ReadL encS w B A l) (hc : l.length ≤ c) (k : Nat) : ReadL encS w B (if c = k then A else A.map (·.add k)) (l.drop k) := by
  intro hn
  have hlt : k < l.length := by
    rcases Nat.lt_or_ge k l.length with h | h
    · exact h
    · exact absurd (List.drop_eq_nil_of_le h) (by intro e; rw [e] at hn; simp at hn)
  rw [if_neg (by omega)]
  obtain ⟨b, off, hA, hb, hcell⟩ := h (by omega)
  subst hA
  have h2 := ReadL.drop (show ReadL encS w B (some ⟨b, off, none⟩) l from h) k
  have := h2 hn
  have ha : (some (⟨b, off, none⟩ : Addr)).map (·.add k) = some ⟨b, off + k * encS.size, none⟩ := by
    simp only [Option.map_some]
    unfold Addr.add
    split
    · simp_all
    · show some _ = some _
      congr 2
      show off + k = off + k * 1
      omega
  rw [ha]
  exact this
theorem w_CopyS (l : List (List UInt8)) (hl : l.length ≤ 100000) (A : Option Addr) (c : Nat) (w : World) (hr : ReadL encS w w.heap.size A l) :
    Calls Tryz.prog 87 #[.slice A l.length c] w fun e w' => (∃ A2 c2, e = .returned (.slice A2 l.length c2) ∧ OwnL encS w' w.heap.size 9 A2 c2 l) ∧ Below w.heap.size w w' := by
  have hn : OwnL encS w w.heap.size 9 none 0 ([] : List (List UInt8)) := OwnL.nil _ _ _
  go_enter Tryz.func87, Tryz.ntmps87
  go_wp2_with (at_builtin
               refine wpList_app_any encS sl_strN l rfl _ _ rfl rfl hn rfl hr (by simp; omega) (by simp only [maxLen, List.length_nil]; omega) (Nat.le_refl _) ?_
               intro A2 c2 w3 hown3 hb3)
  go_ret
  exact ⟨⟨A2, c2, by simp, by simpa using hown3⟩, hb3⟩
theorem add0 (A : Option Addr) : A.map (·.add 0) = A := by
  cases A with
  | none => rfl
  | some a =>
    obtain ⟨b, o, f⟩ := a
    simp only [Option.map_some]
    unfold Addr.add
    split <;> simp_all
theorem sl_at {w : World} {B : Nat} {A : Option Addr} {l : List (List UInt8)} {n c : Nat} (h : ReadL encS w B A l) (hn : l.length = n) (hc : n ≤ c) (k : Nat) (ki : Int) (hki : ki = k) (m : Nat) (hm : m + k = n) :
    ∃ A1 c1, (∀ w', (Instr.slice 22 (.slice A n c) (some (.int .i64 ki)) none none).run Tryz.prog w' = .ok (.slice A1 m c1) w') ∧ ReadL encS w B A1 (l.drop k) ∧ m ≤ c1 := by
  subst hki hn
  refine ⟨if c = k then A else A.map (·.add k), c - k, fun w' => ?_, read_sliced h hc k, by omega⟩
  rw [run_slS w' A l.length c k (by omega), show l.length - k = m from by omega]
theorem sl_to {w : World} {B : Nat} {A : Option Addr} {l : List (List UInt8)} {n c : Nat} (h : ReadL encS w B A l) (hc : n ≤ c) (k : Nat) (ki : Int) (hki : ki = k) (hk : k ≤ n) :
    (∀ w', (Instr.slice 22 (.slice A n c) none (some (.int .i64 ki)) none).run Tryz.prog w' = .ok (.slice A k c) w') ∧ ReadL encS w B A (l.take k) := by
  subst hki
  refine ⟨fun w' => ?_, h.take k⟩
  have he : Program.elem Tryz.prog 22 = 9 := by kernel_rfl
  rw [run_slice_h w' 22 A n c (by rw [he]; exact Tryz.underlying22) .i64 (k : Int) (by omega) (by omega), he, Tryz.sizeOf9]
  simp only [Result.andThen, sliced, Nat.zero_mul, Nat.sub_zero, Int.toNat_natCast]
  rw [add0]
  simp
theorem run_sliceHd {P : Program} (t : TypeId) (ht : P.underlying t = some .string) (s : List UInt8) (hi : Int) (h0 : 0 ≤ hi) (h2 : hi ≤ s.length) (w : World) :
    (Instr.slice t (.string ⟨s.toArray⟩) none (some (.int .i64 hi)) none).run P w = .ok (S (s.take hi.toNat)) w := by
  have hsz : (⟨s.toArray⟩ : ByteArray).size = s.length := ba_size s
  have e1 : hi.toNat ≤ s.length := by omega
  have e3 : 0 ≤ max hi 0 := by omega
  simp [Instr.slice, Sem.run_bind, run_underlying ht, Instr.sliceBounds, Instr.sliceBound, asIntOf, hsz, h0, h2, e3, Result.andThen]
  rw [ba_extract]
  simp
theorem em_snoc {ps : List EB} {k : Nat} {p : EB} (h : ps[k]? = some p) : emAll (ps.take (k + 1)) = emAll (ps.take k) ++ emP p := by
  rw [List.take_add_one, h]; simp [emAll]
theorem em_take_len (ps : List EB) (k : Nat) (h : ps.length ≤ 200) : (emAll (ps.take k)).length ≤ 600 := by
  have := emAll_len (ps.take k)
  have : (ps.take k).length ≤ ps.length := by rw [List.length_take]; omega
  omega
theorem spl47 (p : List UInt8) : spl 47 (47 :: p) = [] :: spl 47 p := by
  conv => lhs; unfold spl
  simp
theorem drop_cut {l : List UInt8} {k : Nat} (hi : Lib.indexByte l 63 = (k : Int)) : l.drop k = 63 :: l.drop (k + 1) := by
  obtain ⟨h1, h2⟩ := cut1_at hi
  have h3 := cut1_true (c := 63) (l := l) (by rw [h1])
  rw [h1] at h3
  have h4 := h3.1
  simp only at h4
  conv => lhs; rw [h4]
  rw [List.drop_append_of_le_length (by rw [List.length_take]; omega), List.drop_eq_nil_of_le (by rw [List.length_take]; omega)]
  rfl
theorem drop_mid2 (d : List (List UInt8)) (x y : List UInt8) (r : List (List UInt8)) : (d ++ [x] ++ y :: r).drop (d.length + 1 + 1) = r := by
  rw [show d ++ [x] ++ y :: r = (d ++ [x] ++ [y]) ++ r from by simp]
  exact List.drop_left' (by simp)
theorem nrmB_cut (b : List UInt8) : ∃ p qq, nrmB (47 :: b) = [47] ++ Lib.join (nrm [] (spl 47 p)) [47] ++ qq ∧ p.length ≤ b.length ∧ qq.length ≤ b.length + 1 ∧
    ((Lib.indexByte (47 :: b) 63 = -1 ∧ qq = [] ∧ b = p) ∨ ∃ k : Nat, Lib.indexByte (47 :: b) 63 = k ∧ k ≤ b.length + 1 ∧ (47 :: b).take k = 47 :: p ∧ (47 :: b).drop k = qq) := by
  rcases ixb_cases (47 :: b) 63 with hi | ⟨k, hi⟩
  · have hc := cut1_none hi
    exact ⟨b, [], by unfold nrmB; rw [hc]; simp, Nat.le_refl _, by simp, .inl ⟨hi, rfl, rfl⟩⟩
  · obtain ⟨hc, hk⟩ := cut1_at hi
    have h1 : (47 :: b).take k = 47 :: (cut1 63 b).1 := by
      have := congrArg Prod.fst hc
      rw [cut47] at this
      exact this.symm
    have hd := drop_cut hi
    refine ⟨(cut1 63 b).1, (47 :: b).drop k, ?_, by have := cut1_len 63 b; omega, by simp, .inr ⟨k, hi, by simp only [List.length_cons] at hk; omega, h1, rfl⟩⟩
    unfold nrmB
    rw [hc, h1, hd]
    rfl
set_option maxHeartbeats 4000000 in
set_option maxRecDepth 100000 in
theorem w_NormalR (l : List UInt8) (hl : l.length ≤ 140737488351232) (w : World) (hM : ML w) :
    Calls Tryz.prog 26 #[S l] w (StPost w (nrmE l)) := by
  by_cases hbig : 200 < l.length
  · rw [nrmE_big hbig]
    go_enter Tryz.func26, Tryz.ntmps26
    go_wp2_with fail
    go_ret2
    exact ⟨rfl, Below.refl _ _⟩
  · have hl2 : l.length ≤ 200 := by omega
    have hun := w_unescapedN l hl2
    cases hu : unP l [] with
    | none =>
      rw [nrmE_none' hbig hu]
      rw [hu] at hun
      go_enter Tryz.func26, Tryz.ntmps26
      go_wp2_with (go_at_call 82; refine (hun _).mono ?_; rintro e w1 ⟨rfl, hb1⟩)
      go_ret2
      exact ⟨rfl, hb1⟩
    | some ps =>
      rw [hu] at hun
      have hpr := w_HasPre l [47]
      have hpl := c1_plainR l (by omega)
      have hca := fun has => w_ContainsAny l [32, 35, 9] (by omega) (by simp) has (by decide)
      have hok := okN_all l
      cases hp : Lib.hasPrefix l [47]
      · rw [nrmE_bad hbig (by rw [hp]; rfl)]
        rw [hp] at hpr
        go_enter Tryz.func26, Tryz.ntmps26
        go_wp2_with (first
          | (go_at_call 82; refine (hun _).mono ?_; rintro e w1 ⟨⟨A1, c1, rfl, ho1⟩, hb1⟩)
          | (go_at_call 83; refine (hpr _).mono ?_; rintro e w' ⟨rfl, rfl⟩))
        go_ret2
        exact ⟨rfl, hb1⟩
      · rw [hp] at hpr
        cases hpa : l.all isPl
        · rw [hpa] at hpl hok
          rw [nrmE_bad hbig (by rw [hok]; simp)]
          go_enter Tryz.func26, Tryz.ntmps26
          go_wp2_with (first
            | (go_at_call 82; refine (hun _).mono ?_; rintro e w1 ⟨⟨A1, c1, rfl, ho1⟩, hb1⟩)
            | (go_at_call 83; refine (hpr _).mono ?_; rintro e w' ⟨rfl, rfl⟩)
            | (go_at_call 72; refine (hpl _).mono ?_; rintro e w' ⟨rfl, rfl⟩))
          go_ret2
          exact ⟨rfl, hb1⟩
        · have hca2 := hca (plain_asc hpa)
          rw [hpa] at hpl hok
          cases hcc : Lib.containsAny l [32, 35, 9]
          · rw [hcc] at hca2 hok
            obtain ⟨E, hE⟩ : ∃ E, nrmE l = E := ⟨_, rfl⟩
            rw [hE]
            have hE2 := nrmE_some hbig (by rw [hp, hok]; rfl) hu
            rw [hE] at hE2
            have hpsl := unP_len _ l [] ps (Nat.le_refl _) hu
            have hem : ∃ b, emAll ps = 47 :: b ∧ b.length ≤ 600 := by
              rcases l with _ | ⟨x, r⟩
              · simp [Lib.hasPrefix] at hp
              · have : x = 47 := by
                  rcases Decidable.em (x = 47) with h | h
                  · exact h
                  · rw [hp47n r h] at hp; cases hp
                subst this
                exact em47 hu hl2
            obtain ⟨b, hb, hbl⟩ := hem
            have hps2 : ps.length ≤ 200 := by simp only [List.length_nil] at hpsl; omega
            have HE := Lib.hid hE2
            have Hb := Lib.hid hb
            clear hE hE2 hu hp hpa hcc hca hok hbig hpsl hb
            go_enter Tryz.func26, Tryz.ntmps26
            go_wp2_with (first
              | (go_at_call 82; refine (hun _).mono ?_; rintro e w1 ⟨⟨A1, c1, rfl, ho1⟩, hb1⟩)
              | (go_at_call 83; refine (hpr _).mono ?_; rintro e w' ⟨rfl, rfl⟩)
              | (go_at_call 72; refine (hpl _).mono ?_; rintro e w' ⟨rfl, rfl⟩)
              | (go_at_call 84; refine (hca2 _).mono ?_; rintro e w2 ⟨rfl, hb2⟩))
            have hr1 := (ho1.read).below hb2 (Nat.le_refl _)
            have hb12 := hb1.trans (hb2.mono hb1.size)
            have hb2s := hb2.size
            clear hun hpr hpl hca2 ho1 hb1
            obtain ⟨T, hT⟩ : ∃ T, ps.map Prod.fst = T := ⟨_, rfl⟩
            rw [hT]
            have hTl : T.length = ps.length := by rw [← hT, List.length_map]
            have hT1 : T.length ≤ ps.length := Nat.le_of_eq hTl
            have hT2 : ps.length ≤ T.length := Nat.le_of_eq hTl.symm
            clear hTl
            have HT := Lib.hid hT
            clear hT
            go_loopw [7, 43] (fun o i' wr => ∃ k : Nat, i' = .int .i64 k ∧ k ≤ ps.length ∧ o = S (emAll (ps.take k)) ∧ Below w2.heap.size w2 wr) (fun _ i' _ => ps.length - (intOf i').toNat)
            case atStart => exact ⟨0, rfl, by omega, rfl, Below.refl _ _⟩
            case round =>
              obtain ⟨k, rfl, hk, rfl, hbel⟩ := hrel
              have hbs := hbel.size
              have hal := em_take_len ps k hps2
              by_cases hlt : k < ps.length
              · obtain ⟨⟨ch, eb⟩, hx, -⟩ := drop_step hlt
                obtain ⟨g, off, rfl, hgb, hc0⟩ := (hr1.below hbel (Nat.le_trans (by omega) hb2s)).at_ (show (ps.map Prod.snd)[k]? = some eb from by rw [List.getElem?_map, hx]; rfl)
                have hc1 : wr.cell? ⟨g, off + k, none⟩ = some (.bool eb) := by have := hc0 0 (.bool eb) rfl; simpa [encO] using this
                have ht : T[k]? = some ch := by rw [← HT.out, List.getElem?_map, hx]; rfl
                have hs1 : ∀ w, (Instr.slice 9 (.string ⟨T.toArray⟩) (some (.int .i64 (k : Int))) (some (.int .i64 ((k : Int) + 1))) none).run Tryz.prog w = .ok (S [ch]) w := fun w => by
                  have := run_sliceS (P := Tryz.prog) 9 Tryz.underlying9 T (k : Int) ((k : Int) + 1) (by omega) (by omega) (by omega) w
                  rw [this]
                  congr 1
                  refine congrArg S ?_
                  have e : ((k : Int) + 1).toNat - ((k : Int)).toNat = 1 := by omega
                  rw [e, Int.toNat_natCast]
                  obtain ⟨y, hy, hys⟩ := drop_step (l := T) (k := k) (by omega)
                  rw [hys]
                  rw [ht] at hy
                  injection hy with hy
                  rw [hy]
                  rfl
                have hsn := em_snoc hx
                have a1 : (k : Int) < (T.length : Int) := by omega
                have v1 : IntKind.i64.wrap ((k : Int) + 1) = (k : Int) + 1 := IntWalk.i64_in _ ⟨by omega, by omega⟩
                clear hx ht hc0
                obtain ⟨acc, hacc⟩ : ∃ acc, emAll (ps.take k) = acc := ⟨_, rfl⟩
                rw [hacc] at hal hsn ⊢
                clear hacc
                cases eb
                · rw [emP_plain] at hsn
                  have Hsn := Lib.hid hsn
                  clear hsn
                  have hct : ∀ w, (Op.stringOp .add ⟨acc.toArray⟩ ⟨#[ch]⟩).run Tryz.prog w = .ok (.string ⟨(acc ++ [ch]).toArray⟩) w := fun w => run_cat acc [ch] (by omega) (by simp) w
                  go_wp2_with fail
                  go_roundw
                  case rel => exact ⟨k + 1, by go_num, by omega, by rw [Hsn.out], hbel⟩
                  case measure => simp [intOf]; omega
                · have hfr : inTab freeTab ch = isFreeB ch := rfl
                  cases hf : isFreeB ch
                  · rw [emP_esc hf] at hsn
                    have Hsn := Lib.hid hsn
                    rw [hf] at hfr
                    have hel3 : (escL ch).length ≤ 3 := Nat.le_refl _
                    have hescw := w_escapedR ch
                    clear hsn
                    generalize escL ch = el at *
                    have hct : ∀ w, (Op.stringOp .add ⟨acc.toArray⟩ ⟨el.toArray⟩).run Tryz.prog w = .ok (.string ⟨(acc ++ el).toArray⟩) w := fun w => run_cat acc el (by omega) (by omega) w
                    go_wp2_with (first
                      | (go_at_call 85; refine (w_Contains1 freeTab ch _).mono ?_; rintro e w' ⟨rfl, rfl⟩)
                      | (go_at_call 86; refine (hescw _).mono ?_; rintro e w4 ⟨rfl, hb4⟩))
                    go_roundw
                    case rel => exact ⟨k + 1, by go_num, by omega, by rw [Hsn.out], hbel.trans (hb4.mono hbs)⟩
                    case measure => simp [intOf]; omega
                  · rw [emP_free hf] at hsn
                    have Hsn := Lib.hid hsn
                    rw [hf] at hfr
                    clear hsn
                    have hct : ∀ w, (Op.stringOp .add ⟨acc.toArray⟩ ⟨#[ch]⟩).run Tryz.prog w = .ok (.string ⟨(acc ++ [ch]).toArray⟩) w := fun w => run_cat acc [ch] (by omega) (by simp) w
                    go_wp2_with (go_at_call 85; refine (w_Contains1 freeTab ch _).mono ?_; rintro e w' ⟨rfl, rfl⟩)
                    go_roundw
                    case rel => exact ⟨k + 1, by go_num, by omega, by rw [Hsn.out], hbel⟩
                    case measure => simp [intOf]; omega
              · have hkl : k = ps.length := by omega
                subst hkl
                rw [List.take_length, Hb.out]
                clear hal hlt hk
                obtain ⟨p, qq, hnb, hp1, hq1, hcase⟩ := nrmB_cut b
                have HE2 := Lib.hid (show E = .ok ([47] ++ Lib.join (nrm [] (spl 47 p)) [47] ++ qq) from by rw [HE.out, Hb.out, hnb])
                have hp : p.length ≤ 600 := by omega
                have hq : qq.length ≤ 601 := by omega
                have hj := nrm_join p (by omega)
                have hL := spl_len1 47 p
                have hsp := fun W hW => w_Split (47 :: p) [47] (by simp; omega) (by simp) W hW
                simp only [split_spl, spl47] at hsp
                have hspm : ∀ x ∈ spl 47 p, x.length ≤ 600 := fun x hx => by have := spl_mem_len hx; omega
                have hspn : spl 47 p ≠ [] := by obtain ⟨x, xs, h⟩ := spl_some 47 p; rw [h]; simp
                generalize spl 47 p = L at *
                obtain ⟨R, hR⟩ : ∃ R, nrm [] L = R := ⟨_, rfl⟩
                rw [hR] at HE2 hj
                have Hj := Lib.hid hj
                have HR := Lib.hid hR
                have hLl : L.length ≤ 601 := by omega
                have hbw := hb12.trans (hbel.mono hb12.size)
                have hM1 : ML wr := hM.keep hbw
                have hix := c1_Index (47 :: b) 63
                clear hnb hp1 hq1 hj hR HE Hb HT hr1 hb2 hb2s hbel
                rcases hcase with ⟨hi, rfl, rfl⟩ | ⟨k, hi, hk, htk, hdk⟩
                · rw [hi] at hix
                  clear hi
                  go_wp2_with (first
                    | (go_at_call 71; refine (hix _).mono ?_; rintro e w' ⟨rfl, rfl⟩)
                    | (go_at_call 8; refine (hsp _ hM1).mono ?_; rintro e w5 ⟨rfl, ho5, hb5⟩; obtain ⟨A6, c6, hs6, hr6, hc6⟩ := sl_at ho5.read (by simp) (Nat.le_refl _) 1 1 rfl L.length rfl))
                  have hbw5 := hbw.trans (hb5.mono hbw.size)
                  have hb5s := hb5.size
                  have hr6' : ReadL encS w5 w5.heap.size A6 ([] ++ L) := hr6
                  clear ho5 hr6 hsp hix hspn hs6
                  go_loopg [12, 13] (wts L) (fun gk st i' wr => ∃ (done todo : List (List UInt8)) (A : Option Addr) (n c : Nat), st = .slice A n c ∧ i' = .int .i64 (done.length : Int) ∧ n ≤ done.length + todo.length ∧ done.length + todo.length ≤ n ∧ n ≤ c ∧ n ≤ 601 ∧ ReadL encS wr wr.heap.size A (done ++ todo) ∧ Below w5.heap.size w5 wr ∧ gk = wts todo ∧ Hid (nrm done todo = R))
                  case atStart => exact ⟨[], L, A6, L.length, c6, rfl, rfl, by simp, by simp, hc6, hLl, hr6', Below.refl _ _, rfl, HR⟩
                  case round =>
                    obtain ⟨done, todo, A, n, c, rfl, rfl, hn1, hn2, hnc, hn6, hread, hbel, rfl, heq⟩ := hrel
                    obtain ⟨wo, rfl⟩ : ∃ wo : World, wo = wr := ⟨_, rfl⟩
                    have hbs := hbel.size
                    have hbwo := hbw5.trans (hbel.mono hbw5.size)
                    rcases todo with _ | ⟨s, r⟩
                    · have hq := heq.out
                      rw [nrm_nil] at hq
                      subst hq
                      have hnd : n = done.length := by simp only [List.length_nil] at hn1 hn2; omega
                      subst hnd
                      rw [List.append_nil] at hread
                      obtain ⟨hj1, hj2⟩ := Hj.out
                      have hjn := w_Join done [47] A c wo.heap.size wo hread (Nat.le_refl _) hnc (by omega) (by omega)
                      obtain ⟨J, hJ⟩ : ∃ J, Lib.join done [47] = J := ⟨_, rfl⟩
                      rw [hJ] at hjn hj2 HE2
                      clear hJ heq HR Hj hread hn1 hn2 hj1
                      have q1 : ∀ w, (Op.stringOp .add ⟨#[47]⟩ ⟨J.toArray⟩).run Tryz.prog w = .ok (.string ⟨([47] ++ J).toArray⟩) w := fun w => run_cat [47] J (by simp) (by omega) w
                      rw [List.append_nil] at HE2
                      have q2 : ∀ w, (Op.stringOp .add ⟨([47] ++ J).toArray⟩ ⟨([] : List UInt8).toArray⟩).run Tryz.prog w = .ok (.string ⟨([47] ++ J).toArray⟩) w := fun w => by have := run_cat (P := Tryz.prog) ([47] ++ J) [] (by simp; omega) (by simp) w; rwa [List.append_nil] at this
                      go_wp2_with (go_at_call 75; refine hjn.mono ?_; rintro e w9 ⟨rfl, hb9⟩)
                      go_ret2
                      rw [HE2.out]
                      exact ⟨rfl, hbwo.trans (hb9.mono hbwo.size)⟩
                    · simp only [List.length_cons] at hn1 hn2
                      by_cases hd : isDot s = true
                      · have hwr0 := wts_rest r s hd
                        have hcases : (∃ d2, nrm d2 (restR r) = R ∧ s = [46] ∧ d2 = done) ∨ (s = [46, 46] ∧ done = [] ∧ nrm [] (restR r) = R) ∨ (∃ d x, s = [46, 46] ∧ done = d ++ [x] ∧ nrm d (restR r) = R) := by
                          have hq := heq.out
                          unfold isDot at hd
                          rcases (by simpa using hd : s = [46] ∨ s = [46, 46]) with rfl | rfl
                          · exact .inl ⟨done, by rw [← nrm_oneR]; exact hq, rfl, rfl⟩
                          · rw [nrm_twoR] at hq
                            rcases nil_or_snoc done with rfl | ⟨d, x, rfl⟩
                            · exact .inr (.inl ⟨rfl, rfl, by simpa using hq⟩)
                            · exact .inr (.inr ⟨d, x, rfl, rfl, by simpa using hq⟩)
                        clear heq hd
                        rcases hcases with ⟨d2, hq, rfl, rfl⟩ | ⟨rfl, rfl, hq⟩ | ⟨d, x, rfl, rfl, hq⟩
                        · have hgs : (d2 ++ [46] :: r)[d2.length]? = some [46] := by simp
                          obtain ⟨g, off, rfl, hgb, hc0⟩ := hread.at_S hgs
                          have a1 : ((d2.length : Int) : Int) < (n : Int) := by omega
                          have v1 : IntKind.i64.wrap (((d2.length : Int) : Int) + 1) = ((d2.length : Int) : Int) + 1 := IntWalk.i64_in _ ⟨by omega, by omega⟩
                          have hlen : (d2 ++ [46] :: r).length = n := by simp; omega
                          obtain ⟨A7, c7, hs7, hr7, hc7⟩ := sl_at hread hlen hnc (d2.length + 1) (((d2.length : Int) : Int) + 1) (by omega) r.length (by omega)
                          rw [show (d2 ++ [46] :: r).drop (d2.length + 1) = r from by first | (simp; done) | exact drop_mid2 _ _ _ _] at hr7
                          have hcp := w_CopyS r (by omega) A7 c7 wo hr7
                          clear hgs hlen hr7
                          obtain ⟨hs8, hr8⟩ := sl_to hread hnc d2.length (d2.length : Int) rfl (by omega)
                          rw [show (d2 ++ [46] :: r).take d2.length = d2 from by simp] at hr8
                          rcases r with _ | ⟨x2, r2⟩
                          · have Hq := Lib.hid (show nrm d2 [[]] = R from hq)
                            have hmw : wts [[]] < wts _ := hwr0
                            simp only [List.length_cons, List.length_nil] at hn1 hn2
                            clear hq
                            go_wp2_with fail
                            refine hcp.mono ?_
                            rintro e w7 ⟨⟨A8, c8, rfl, ho8⟩, hb8⟩
                            have hb8s := hb8.size
                            have hr9 : ReadL encS (w7.alloc (.cells #[S []] 9)) (w7.alloc (.cells #[S []] 9)).heap.size (some ⟨g, off, none⟩) d2 := ((hr8.below hb8 (Nat.le_refl _)).alloc hb8s _).more (by simp; omega)
                            have hrL : ReadL encS (w7.alloc (.cells #[S []] 9)) (w7.heap.size + 1) (some ⟨w7.heap.size, 0, none⟩) [([] : List UInt8)] := ReadL.lit _ #[S []] _ _ rfl
                            go_wp2_with fail
                            refine (w_CopyS d2 (by first | omega | simp) (some ⟨g, off, none⟩) c _ hr9).mono ?_
                            rintro e w9 ⟨⟨A10, c10, rfl, ho10⟩, hb10⟩
                            have hb10s := hb10.size
                            have hb10t : w7.heap.size + 1 ≤ w9.heap.size := by simpa using hb10s
                            have hrL2 := hrL.below hb10 (by simp)
                            go_wp2_with (at_builtin; refine wpList_app_any (l := d2) encS sl_strN [([] : List UInt8)] rfl _ _ rfl rfl ho10 rfl hrL2 (by first | (simp; done) | (simp; omega)) (by first | (simp [maxLen]; done) | (simp only [maxLen, List.length_cons, List.length_nil]; omega)) hb10s ?_; intro A11 c11 w11 ho11 hb11)
                            have hB11 : Below w5.heap.size w5 w11 := by
                              have t1 := hbel.trans (hb8.mono hbs)
                              have t2 := t1.alloc t1.size (.cells #[S []] 9)
                              have t3 := t2.trans (hb10.mono t2.size)
                              exact t3.trans (hb11.mono (by have := t2.size; simp at this ⊢; omega))
                            have hcap11 := ho11.le_cap
                            have hrd11 := ho11.read
                            go_roundg (wts [[]])
                            case measure => exact hmw
                            case rel => exact ⟨d2, [[]], A11, _, c11, rfl, by first | rfl | go_num, by simp, by simp, by simpa using hcap11, by simp only [List.length_cons, List.length_nil] at *; omega, hrd11, hB11, rfl, Hq⟩
                          · have Hq := Lib.hid (show nrm d2 (x2 :: r2) = R from hq)
                            have hmw : wts (x2 :: r2) < wts _ := hwr0
                            simp only [List.length_cons, List.length_nil] at hn1 hn2
                            clear hq
                            go_wp2_with fail
                            refine hcp.mono ?_
                            rintro e w7 ⟨⟨A8, c8, rfl, ho8⟩, hb8⟩
                            have hb8s := hb8.size
                            have hr9 : ReadL encS w7 w7.heap.size (some ⟨g, off, none⟩) d2 := (hr8.below hb8 (Nat.le_refl _)).more hb8s
                            have hrL := ho8.read
                            go_wp2_with fail
                            refine (w_CopyS d2 (by first | omega | simp) (some ⟨g, off, none⟩) c _ hr9).mono ?_
                            rintro e w9 ⟨⟨A10, c10, rfl, ho10⟩, hb10⟩
                            have hb10s := hb10.size
                            have hb10t : w7.heap.size ≤ w9.heap.size := hb10s
                            have hrL2 := hrL.below hb10 (Nat.le_refl _)
                            go_wp2_with (at_builtin; refine wpList_app_any (l := d2) encS sl_strN (x2 :: r2) rfl _ _ rfl rfl ho10 rfl hrL2 (by first | (simp; done) | (simp; omega)) (by first | (simp [maxLen]; done) | (simp only [maxLen, List.length_cons, List.length_nil]; omega)) hb10s ?_; intro A11 c11 w11 ho11 hb11)
                            have hB11 : Below w5.heap.size w5 w11 := by
                              have t1 := hbel.trans (hb8.mono hbs)
                              have t3 := t1.trans (hb10.mono t1.size)
                              exact t3.trans (hb11.mono t1.size)
                            have hcap11 := ho11.le_cap
                            have hrd11 := ho11.read
                            go_roundg (wts (x2 :: r2))
                            case measure => exact hmw
                            case rel => exact ⟨d2, (x2 :: r2), A11, _, c11, rfl, by first | rfl | go_num, by simp, by simp, by simpa using hcap11, by simp only [List.length_cons, List.length_nil] at *; omega, hrd11, hB11, rfl, Hq⟩
                        · rw [show (([] : List (List UInt8)).length : Int) = 0 from rfl]
                          simp only [List.length_nil] at hn1 hn2
                          have hgs : (([] : List (List UInt8)) ++ [46, 46] :: r)[0]? = some [46, 46] := by simp
                          obtain ⟨g, off, rfl, hgb, hc0⟩ := hread.at_S hgs
                          rw [Nat.add_zero] at hc0
                          have a1 : (0 : Int) < (n : Int) := by omega
                          have hlen : (([] : List (List UInt8)) ++ [46, 46] :: r).length = n := by simp; omega
                          obtain ⟨A7, c7, hs7, hr7, hc7⟩ := sl_at hread hlen hnc (0 + 1) (1) (by omega) r.length (by omega)
                          rw [show (([] : List (List UInt8)) ++ [46, 46] :: r).drop (0 + 1) = r from by first | (simp; done) | exact drop_mid2 _ _ _ _] at hr7
                          have hcp := w_CopyS r (by omega) A7 c7 wo hr7
                          clear hgs hlen hr7
                          obtain ⟨hs8, hr8⟩ := sl_to hread hnc 0 0 rfl (by omega)
                          rw [show (([] : List (List UInt8)) ++ [46, 46] :: r).take 0 = [] from rfl] at hr8
                          rcases r with _ | ⟨x2, r2⟩
                          · have Hq := Lib.hid (show nrm [] [[]] = R from hq)
                            have hmw : wts [[]] < wts _ := hwr0
                            simp only [List.length_cons, List.length_nil] at hn1 hn2
                            clear hq
                            go_wp2_with fail
                            refine hcp.mono ?_
                            rintro e w7 ⟨⟨A8, c8, rfl, ho8⟩, hb8⟩
                            have hb8s := hb8.size
                            have hr9 : ReadL encS (w7.alloc (.cells #[S []] 9)) (w7.alloc (.cells #[S []] 9)).heap.size (some ⟨g, off, none⟩) [] := ((hr8.below hb8 (Nat.le_refl _)).alloc hb8s _).more (by simp; omega)
                            have hrL : ReadL encS (w7.alloc (.cells #[S []] 9)) (w7.heap.size + 1) (some ⟨w7.heap.size, 0, none⟩) [([] : List UInt8)] := ReadL.lit _ #[S []] _ _ rfl
                            go_wp2_with fail
                            refine (w_CopyS ([] : List (List UInt8)) (by first | omega | simp) (some ⟨g, off, none⟩) c _ hr9).mono ?_
                            rintro e w9 ⟨⟨A10, c10, rfl, ho10⟩, hb10⟩
                            have hb10s := hb10.size
                            have hb10t : w7.heap.size + 1 ≤ w9.heap.size := by simpa using hb10s
                            have hrL2 := hrL.below hb10 (by simp)
                            go_wp2_with (at_builtin; refine wpList_app_any (l := ([] : List (List UInt8))) encS sl_strN [([] : List UInt8)] rfl _ _ rfl rfl ho10 rfl hrL2 (by first | (simp; done) | (simp; omega)) (by first | (simp [maxLen]; done) | (simp only [maxLen, List.length_cons, List.length_nil]; omega)) hb10s ?_; intro A11 c11 w11 ho11 hb11)
                            have hB11 : Below w5.heap.size w5 w11 := by
                              have t1 := hbel.trans (hb8.mono hbs)
                              have t2 := t1.alloc t1.size (.cells #[S []] 9)
                              have t3 := t2.trans (hb10.mono t2.size)
                              exact t3.trans (hb11.mono (by have := t2.size; simp at this ⊢; omega))
                            have hcap11 := ho11.le_cap
                            have hrd11 := ho11.read
                            go_roundg (wts [[]])
                            case measure => exact hmw
                            case rel => exact ⟨[], [[]], A11, _, c11, rfl, by first | rfl | go_num, by simp, by simp, by simpa using hcap11, by simp only [List.length_cons, List.length_nil] at *; omega, hrd11, hB11, rfl, Hq⟩
                          · have Hq := Lib.hid (show nrm [] (x2 :: r2) = R from hq)
                            have hmw : wts (x2 :: r2) < wts _ := hwr0
                            simp only [List.length_cons, List.length_nil] at hn1 hn2
                            clear hq
                            go_wp2_with fail
                            refine hcp.mono ?_
                            rintro e w7 ⟨⟨A8, c8, rfl, ho8⟩, hb8⟩
                            have hb8s := hb8.size
                            have hr9 : ReadL encS w7 w7.heap.size (some ⟨g, off, none⟩) [] := (hr8.below hb8 (Nat.le_refl _)).more hb8s
                            have hrL := ho8.read
                            go_wp2_with fail
                            refine (w_CopyS ([] : List (List UInt8)) (by first | omega | simp) (some ⟨g, off, none⟩) c _ hr9).mono ?_
                            rintro e w9 ⟨⟨A10, c10, rfl, ho10⟩, hb10⟩
                            have hb10s := hb10.size
                            have hb10t : w7.heap.size ≤ w9.heap.size := hb10s
                            have hrL2 := hrL.below hb10 (Nat.le_refl _)
                            go_wp2_with (at_builtin; refine wpList_app_any (l := ([] : List (List UInt8))) encS sl_strN (x2 :: r2) rfl _ _ rfl rfl ho10 rfl hrL2 (by first | (simp; done) | (simp; omega)) (by first | (simp [maxLen]; done) | (simp only [maxLen, List.length_cons, List.length_nil]; omega)) hb10s ?_; intro A11 c11 w11 ho11 hb11)
                            have hB11 : Below w5.heap.size w5 w11 := by
                              have t1 := hbel.trans (hb8.mono hbs)
                              have t3 := t1.trans (hb10.mono t1.size)
                              exact t3.trans (hb11.mono t1.size)
                            have hcap11 := ho11.le_cap
                            have hrd11 := ho11.read
                            go_roundg (wts (x2 :: r2))
                            case measure => exact hmw
                            case rel => exact ⟨[], (x2 :: r2), A11, _, c11, rfl, by first | rfl | go_num, by simp, by simp, by simpa using hcap11, by simp only [List.length_cons, List.length_nil] at *; omega, hrd11, hB11, rfl, Hq⟩
                        · rw [show ((d ++ [x]).length : Int) = (d.length : Int) + 1 from by simp]
                          simp only [List.length_append, List.length_cons, List.length_nil] at hn1 hn2
                          have hgs : ((d ++ [x]) ++ [46, 46] :: r)[(d.length + 1)]? = some [46, 46] := by simp
                          obtain ⟨g, off, rfl, hgb, hc0⟩ := hread.at_S hgs
                          have a1 : (((d.length : Int) + 1) : Int) < (n : Int) := by omega
                          have v1 : IntKind.i64.wrap ((((d.length : Int) + 1) : Int) + 1) = (((d.length : Int) + 1) : Int) + 1 := IntWalk.i64_in _ ⟨by omega, by omega⟩
                          have a5 : (0 : Int) < (d.length : Int) + 1 := by omega
                          have a6 : (0 : Int) ≤ (d.length : Int) + 1 := by omega
                          have a7 : ((d.length : Int) + 1).toNat = d.length + 1 := by omega
                          have hlen : ((d ++ [x]) ++ [46, 46] :: r).length = n := by simp; omega
                          obtain ⟨A7, c7, hs7, hr7, hc7⟩ := sl_at hread hlen hnc ((d.length + 1) + 1) ((((d.length : Int) + 1) : Int) + 1) (by omega) r.length (by omega)
                          rw [show ((d ++ [x]) ++ [46, 46] :: r).drop ((d.length + 1) + 1) = r from by first | (simp; done) | exact drop_mid2 _ _ _ _] at hr7
                          have hcp := w_CopyS r (by omega) A7 c7 wo hr7
                          clear hgs hlen hr7
                          skip
                          obtain ⟨hs8, hr8⟩ := sl_to hread hnc d.length (d.length : Int) rfl (by omega)
                          rw [show (d ++ [x] ++ [46, 46] :: r).take d.length = d from by rw [List.append_assoc]; exact List.take_left] at hr8
                          rcases r with _ | ⟨x2, r2⟩
                          · have Hq := Lib.hid (show nrm d [[]] = R from hq)
                            have hmw : wts [[]] < wts _ := hwr0
                            simp only [List.length_cons, List.length_nil] at hn1 hn2
                            clear hq
                            go_wp2_with fail
                            refine hcp.mono ?_
                            rintro e w7 ⟨⟨A8, c8, rfl, ho8⟩, hb8⟩
                            have hb8s := hb8.size
                            have hr9 : ReadL encS (w7.alloc (.cells #[S []] 9)) (w7.alloc (.cells #[S []] 9)).heap.size (some ⟨g, off, none⟩) d := ((hr8.below hb8 (Nat.le_refl _)).alloc hb8s _).more (by simp; omega)
                            have hrL : ReadL encS (w7.alloc (.cells #[S []] 9)) (w7.heap.size + 1) (some ⟨w7.heap.size, 0, none⟩) [([] : List UInt8)] := ReadL.lit _ #[S []] _ _ rfl
                            go_wp2_with fail
                            refine (w_CopyS d (by first | omega | simp) (some ⟨g, off, none⟩) c _ hr9).mono ?_
                            rintro e w9 ⟨⟨A10, c10, rfl, ho10⟩, hb10⟩
                            have hb10s := hb10.size
                            have hb10t : w7.heap.size + 1 ≤ w9.heap.size := by simpa using hb10s
                            have hrL2 := hrL.below hb10 (by simp)
                            go_wp2_with (at_builtin; refine wpList_app_any (l := d) encS sl_strN [([] : List UInt8)] rfl _ _ rfl rfl ho10 rfl hrL2 (by first | (simp; done) | (simp; omega)) (by first | (simp [maxLen]; done) | (simp only [maxLen, List.length_cons, List.length_nil]; omega)) hb10s ?_; intro A11 c11 w11 ho11 hb11)
                            have hB11 : Below w5.heap.size w5 w11 := by
                              have t1 := hbel.trans (hb8.mono hbs)
                              have t2 := t1.alloc t1.size (.cells #[S []] 9)
                              have t3 := t2.trans (hb10.mono t2.size)
                              exact t3.trans (hb11.mono (by have := t2.size; simp at this ⊢; omega))
                            have hcap11 := ho11.le_cap
                            have hrd11 := ho11.read
                            go_roundg (wts [[]])
                            case measure => exact hmw
                            case rel => exact ⟨d, [[]], A11, _, c11, rfl, by first | rfl | go_num, by simp, by simp, by simpa using hcap11, by simp only [List.length_cons, List.length_nil] at *; omega, hrd11, hB11, rfl, Hq⟩
                          · have Hq := Lib.hid (show nrm d (x2 :: r2) = R from hq)
                            have hmw : wts (x2 :: r2) < wts _ := hwr0
                            simp only [List.length_cons, List.length_nil] at hn1 hn2
                            clear hq
                            go_wp2_with fail
                            refine hcp.mono ?_
                            rintro e w7 ⟨⟨A8, c8, rfl, ho8⟩, hb8⟩
                            have hb8s := hb8.size
                            have hr9 : ReadL encS w7 w7.heap.size (some ⟨g, off, none⟩) d := (hr8.below hb8 (Nat.le_refl _)).more hb8s
                            have hrL := ho8.read
                            go_wp2_with fail
                            refine (w_CopyS d (by first | omega | simp) (some ⟨g, off, none⟩) c _ hr9).mono ?_
                            rintro e w9 ⟨⟨A10, c10, rfl, ho10⟩, hb10⟩
                            have hb10s := hb10.size
                            have hb10t : w7.heap.size ≤ w9.heap.size := hb10s
                            have hrL2 := hrL.below hb10 (Nat.le_refl _)
                            go_wp2_with (at_builtin; refine wpList_app_any (l := d) encS sl_strN (x2 :: r2) rfl _ _ rfl rfl ho10 rfl hrL2 (by first | (simp; done) | (simp; omega)) (by first | (simp [maxLen]; done) | (simp only [maxLen, List.length_cons, List.length_nil]; omega)) hb10s ?_; intro A11 c11 w11 ho11 hb11)
                            have hB11 : Below w5.heap.size w5 w11 := by
                              have t1 := hbel.trans (hb8.mono hbs)
                              have t3 := t1.trans (hb10.mono t1.size)
                              exact t3.trans (hb11.mono t1.size)
                            have hcap11 := ho11.le_cap
                            have hrd11 := ho11.read
                            go_roundg (wts (x2 :: r2))
                            case measure => exact hmw
                            case rel => exact ⟨d, (x2 :: r2), A11, _, c11, rfl, by first | rfl | go_num, by simp, by simp, by simpa using hcap11, by simp only [List.length_cons, List.length_nil] at *; omega, hrd11, hB11, rfl, Hq⟩
                      · have hd2 : isDot s = false := by simpa using hd
                        unfold isDot at hd2
                        have hd3 : ¬ s = [46] ∧ ¬ s = [46, 46] := by simpa using hd2
                        obtain ⟨m1, m2⟩ := hd3
                        have n1 : (s == [46]) = false := by simpa using m1
                        have n2 : (s == [46, 46]) = false := by simpa using m2
                        have Hq := Lib.hid (show nrm (done ++ [s]) r = R from by rw [← nrm_other m2 m1]; exact heq.out)
                        have hmw := wts_cons r s
                        have hgs : (done ++ s :: r)[done.length]? = some s := by simp
                        obtain ⟨g, off, rfl, hgb, hc0⟩ := hread.at_S hgs
                        have a1 : (done.length : Int) < (n : Int) := by omega
                        have hread2 : ReadL encS wo wo.heap.size (some ⟨g, off, none⟩) ((done ++ [s]) ++ r) := by rw [List.append_assoc]; exact hread
                        clear hd hd2 heq hread hgs
                        go_wp2_with fail
                        go_roundg (wts r)
                        case measure => exact hmw
                        case rel => exact ⟨done ++ [s], r, _, n, c, rfl, by simp, by simp; omega, by simp; omega, hnc, hn6, hread2, hbel, rfl, Hq⟩
                · rw [hi] at hix
                  clear hi
                  have sl0 : ∀ w, (Instr.slice 9 (.string ⟨(47 :: b).toArray⟩) none (some (.int .i64 (k : Int))) none).run Tryz.prog w = .ok (S (47 :: p)) w := fun w => by
                    have := run_sliceHd (P := Tryz.prog) 9 Tryz.underlying9 (47 :: b) (k : Int) (by omega) (by simp only [List.length_cons]; omega) w
                    rw [Int.toNat_natCast, htk] at this
                    exact this
                  have sl1 : ∀ w, (Instr.slice 9 (.string ⟨(47 :: b).toArray⟩) (some (.int .i64 (k : Int))) none none).run Tryz.prog w = .ok (S qq) w := fun w => by
                    have := run_sliceT (P := Tryz.prog) 9 Tryz.underlying9 (47 :: b) (k : Int) (by omega) (by simp only [List.length_cons]; omega) w
                    rw [Int.toNat_natCast, hdk] at this
                    exact this
                  clear htk hdk
                  go_wp2_with (go_at_call 71; refine (hix _).mono ?_; rintro e w' ⟨rfl, rfl⟩)
                  go_region_with (fail)
                  all_goals
                    have hbw := hbw.drew
                    go_wp2_with (go_at_call 8; refine Calls.mono (hsp wr.drew hM1) ?_; rintro e w5 ⟨rfl, ho5, hb5⟩; obtain ⟨A6, c6, hs6, hr6, hc6⟩ := sl_at ho5.read (by simp) (Nat.le_refl _) 1 1 rfl L.length rfl; change ∀ w', (Instr.slice 22 (.slice (some ⟨wr.heap.size, 0, none⟩) (L.length + 1) (L.length + 1)) (some (.int .i64 1)) none none).run Tryz.prog w' = _ at hs6)
                    have hbw5 := hbw.trans (hb5.mono hbw.size)
                    have hb5s := hb5.size
                    have hr6' : ReadL encS w5 w5.heap.size A6 ([] ++ L) := hr6
                    clear ho5 hr6 hsp hix hspn hs6
                    go_loopg [12, 13] (wts L) (fun gk st i' wr => ∃ (done todo : List (List UInt8)) (A : Option Addr) (n c : Nat), st = .slice A n c ∧ i' = .int .i64 (done.length : Int) ∧ n ≤ done.length + todo.length ∧ done.length + todo.length ≤ n ∧ n ≤ c ∧ n ≤ 601 ∧ ReadL encS wr wr.heap.size A (done ++ todo) ∧ Below w5.heap.size w5 wr ∧ gk = wts todo ∧ Hid (nrm done todo = R))
                    case atStart => exact ⟨[], L, A6, L.length, c6, rfl, rfl, by simp, by simp, hc6, hLl, hr6', Below.refl _ _, rfl, HR⟩
                    case round =>
                      obtain ⟨done, todo, A, n, c, rfl, rfl, hn1, hn2, hnc, hn6, hread, hbel, rfl, heq⟩ := hrel
                      obtain ⟨wo, rfl⟩ : ∃ wo : World, wo = wr := ⟨_, rfl⟩
                      have hbs := hbel.size
                      have hbwo := hbw5.trans (hbel.mono hbw5.size)
                      rcases todo with _ | ⟨s, r⟩
                      · have hq := heq.out
                        rw [nrm_nil] at hq
                        subst hq
                        have hnd : n = done.length := by simp only [List.length_nil] at hn1 hn2; omega
                        subst hnd
                        rw [List.append_nil] at hread
                        obtain ⟨hj1, hj2⟩ := Hj.out
                        have hjn := w_Join done [47] A c wo.heap.size wo hread (Nat.le_refl _) hnc (by omega) (by omega)
                        obtain ⟨J, hJ⟩ : ∃ J, Lib.join done [47] = J := ⟨_, rfl⟩
                        rw [hJ] at hjn hj2 HE2
                        clear hJ heq HR Hj hread hn1 hn2 hj1
                        have q1 : ∀ w, (Op.stringOp .add ⟨#[47]⟩ ⟨J.toArray⟩).run Tryz.prog w = .ok (.string ⟨([47] ++ J).toArray⟩) w := fun w => run_cat [47] J (by simp) (by omega) w
                        have q2 : ∀ w, (Op.stringOp .add ⟨([47] ++ J).toArray⟩ ⟨qq.toArray⟩).run Tryz.prog w = .ok (.string ⟨([47] ++ J ++ qq).toArray⟩) w := fun w => run_cat ([47] ++ J) qq (by simp; omega) (by omega) w
                        go_wp2_with (go_at_call 75; refine hjn.mono ?_; rintro e w9 ⟨rfl, hb9⟩)
                        go_ret2
                        rw [HE2.out]
                        exact ⟨rfl, hbwo.trans (hb9.mono hbwo.size)⟩
                      · simp only [List.length_cons] at hn1 hn2
                        by_cases hd : isDot s = true
                        · have hwr0 := wts_rest r s hd
                          have hcases : (∃ d2, nrm d2 (restR r) = R ∧ s = [46] ∧ d2 = done) ∨ (s = [46, 46] ∧ done = [] ∧ nrm [] (restR r) = R) ∨ (∃ d x, s = [46, 46] ∧ done = d ++ [x] ∧ nrm d (restR r) = R) := by
                            have hq := heq.out
                            unfold isDot at hd
                            rcases (by simpa using hd : s = [46] ∨ s = [46, 46]) with rfl | rfl
                            · exact .inl ⟨done, by rw [← nrm_oneR]; exact hq, rfl, rfl⟩
                            · rw [nrm_twoR] at hq
                              rcases nil_or_snoc done with rfl | ⟨d, x, rfl⟩
                              · exact .inr (.inl ⟨rfl, rfl, by simpa using hq⟩)
                              · exact .inr (.inr ⟨d, x, rfl, rfl, by simpa using hq⟩)
                          clear heq hd
                          rcases hcases with ⟨d2, hq, rfl, rfl⟩ | ⟨rfl, rfl, hq⟩ | ⟨d, x, rfl, rfl, hq⟩
                          · have hgs : (d2 ++ [46] :: r)[d2.length]? = some [46] := by simp
                            obtain ⟨g, off, rfl, hgb, hc0⟩ := hread.at_S hgs
                            have a1 : ((d2.length : Int) : Int) < (n : Int) := by omega
                            have v1 : IntKind.i64.wrap (((d2.length : Int) : Int) + 1) = ((d2.length : Int) : Int) + 1 := IntWalk.i64_in _ ⟨by omega, by omega⟩
                            have hlen : (d2 ++ [46] :: r).length = n := by simp; omega
                            obtain ⟨A7, c7, hs7, hr7, hc7⟩ := sl_at hread hlen hnc (d2.length + 1) (((d2.length : Int) : Int) + 1) (by omega) r.length (by omega)
                            rw [show (d2 ++ [46] :: r).drop (d2.length + 1) = r from by first | (simp; done) | exact drop_mid2 _ _ _ _] at hr7
                            have hcp := w_CopyS r (by omega) A7 c7 wo hr7
                            clear hgs hlen hr7
                            obtain ⟨hs8, hr8⟩ := sl_to hread hnc d2.length (d2.length : Int) rfl (by omega)
                            rw [show (d2 ++ [46] :: r).take d2.length = d2 from by simp] at hr8
                            rcases r with _ | ⟨x2, r2⟩
                            · have Hq := Lib.hid (show nrm d2 [[]] = R from hq)
                              have hmw : wts [[]] < wts _ := hwr0
                              simp only [List.length_cons, List.length_nil] at hn1 hn2
                              clear hq
                              go_wp2_with fail
                              refine hcp.mono ?_
                              rintro e w7 ⟨⟨A8, c8, rfl, ho8⟩, hb8⟩
                              have hb8s := hb8.size
                              have hr9 : ReadL encS (w7.alloc (.cells #[S []] 9)) (w7.alloc (.cells #[S []] 9)).heap.size (some ⟨g, off, none⟩) d2 := ((hr8.below hb8 (Nat.le_refl _)).alloc hb8s _).more (by simp; omega)
                              have hrL : ReadL encS (w7.alloc (.cells #[S []] 9)) (w7.heap.size + 1) (some ⟨w7.heap.size, 0, none⟩) [([] : List UInt8)] := ReadL.lit _ #[S []] _ _ rfl
                              go_wp2_with fail
                              refine (w_CopyS d2 (by first | omega | simp) (some ⟨g, off, none⟩) c _ hr9).mono ?_
                              rintro e w9 ⟨⟨A10, c10, rfl, ho10⟩, hb10⟩
                              have hb10s := hb10.size
                              have hb10t : w7.heap.size + 1 ≤ w9.heap.size := by simpa using hb10s
                              have hrL2 := hrL.below hb10 (by simp)
                              go_wp2_with (at_builtin; refine wpList_app_any (l := d2) encS sl_strN [([] : List UInt8)] rfl _ _ rfl rfl ho10 rfl hrL2 (by first | (simp; done) | (simp; omega)) (by first | (simp [maxLen]; done) | (simp only [maxLen, List.length_cons, List.length_nil]; omega)) hb10s ?_; intro A11 c11 w11 ho11 hb11)
                              have hB11 : Below w5.heap.size w5 w11 := by
                                have t1 := hbel.trans (hb8.mono hbs)
                                have t2 := t1.alloc t1.size (.cells #[S []] 9)
                                have t3 := t2.trans (hb10.mono t2.size)
                                exact t3.trans (hb11.mono (by have := t2.size; simp at this ⊢; omega))
                              have hcap11 := ho11.le_cap
                              have hrd11 := ho11.read
                              go_roundg (wts [[]])
                              case measure => exact hmw
                              case rel => exact ⟨d2, [[]], A11, _, c11, rfl, by first | rfl | go_num, by simp, by simp, by simpa using hcap11, by simp only [List.length_cons, List.length_nil] at *; omega, hrd11, hB11, rfl, Hq⟩
                            · have Hq := Lib.hid (show nrm d2 (x2 :: r2) = R from hq)
                              have hmw : wts (x2 :: r2) < wts _ := hwr0
                              simp only [List.length_cons, List.length_nil] at hn1 hn2
                              clear hq
                              go_wp2_with fail
                              refine hcp.mono ?_
                              rintro e w7 ⟨⟨A8, c8, rfl, ho8⟩, hb8⟩
                              have hb8s := hb8.size
                              have hr9 : ReadL encS w7 w7.heap.size (some ⟨g, off, none⟩) d2 := (hr8.below hb8 (Nat.le_refl _)).more hb8s
                              have hrL := ho8.read
                              go_wp2_with fail
                              refine (w_CopyS d2 (by first | omega | simp) (some ⟨g, off, none⟩) c _ hr9).mono ?_
                              rintro e w9 ⟨⟨A10, c10, rfl, ho10⟩, hb10⟩
                              have hb10s := hb10.size
                              have hb10t : w7.heap.size ≤ w9.heap.size := hb10s
                              have hrL2 := hrL.below hb10 (Nat.le_refl _)
                              go_wp2_with (at_builtin; refine wpList_app_any (l := d2) encS sl_strN (x2 :: r2) rfl _ _ rfl rfl ho10 rfl hrL2 (by first | (simp; done) | (simp; omega)) (by first | (simp [maxLen]; done) | (simp only [maxLen, List.length_cons, List.length_nil]; omega)) hb10s ?_; intro A11 c11 w11 ho11 hb11)
                              have hB11 : Below w5.heap.size w5 w11 := by
                                have t1 := hbel.trans (hb8.mono hbs)
                                have t3 := t1.trans (hb10.mono t1.size)
                                exact t3.trans (hb11.mono t1.size)
                              have hcap11 := ho11.le_cap
                              have hrd11 := ho11.read
                              go_roundg (wts (x2 :: r2))
                              case measure => exact hmw
                              case rel => exact ⟨d2, (x2 :: r2), A11, _, c11, rfl, by first | rfl | go_num, by simp, by simp, by simpa using hcap11, by simp only [List.length_cons, List.length_nil] at *; omega, hrd11, hB11, rfl, Hq⟩
                          · rw [show (([] : List (List UInt8)).length : Int) = 0 from rfl]
                            simp only [List.length_nil] at hn1 hn2
                            have hgs : (([] : List (List UInt8)) ++ [46, 46] :: r)[0]? = some [46, 46] := by simp
                            obtain ⟨g, off, rfl, hgb, hc0⟩ := hread.at_S hgs
                            rw [Nat.add_zero] at hc0
                            have a1 : (0 : Int) < (n : Int) := by omega
                            have hlen : (([] : List (List UInt8)) ++ [46, 46] :: r).length = n := by simp; omega
                            obtain ⟨A7, c7, hs7, hr7, hc7⟩ := sl_at hread hlen hnc (0 + 1) (1) (by omega) r.length (by omega)
                            rw [show (([] : List (List UInt8)) ++ [46, 46] :: r).drop (0 + 1) = r from by first | (simp; done) | exact drop_mid2 _ _ _ _] at hr7
                            have hcp := w_CopyS r (by omega) A7 c7 wo hr7
                            clear hgs hlen hr7
                            obtain ⟨hs8, hr8⟩ := sl_to hread hnc 0 0 rfl (by omega)
                            rw [show (([] : List (List UInt8)) ++ [46, 46] :: r).take 0 = [] from rfl] at hr8
                            rcases r with _ | ⟨x2, r2⟩
                            · have Hq := Lib.hid (show nrm [] [[]] = R from hq)
                              have hmw : wts [[]] < wts _ := hwr0
                              simp only [List.length_cons, List.length_nil] at hn1 hn2
                              clear hq
                              go_wp2_with fail
                              refine hcp.mono ?_
                              rintro e w7 ⟨⟨A8, c8, rfl, ho8⟩, hb8⟩
                              have hb8s := hb8.size
                              have hr9 : ReadL encS (w7.alloc (.cells #[S []] 9)) (w7.alloc (.cells #[S []] 9)).heap.size (some ⟨g, off, none⟩) [] := ((hr8.below hb8 (Nat.le_refl _)).alloc hb8s _).more (by simp; omega)
                              have hrL : ReadL encS (w7.alloc (.cells #[S []] 9)) (w7.heap.size + 1) (some ⟨w7.heap.size, 0, none⟩) [([] : List UInt8)] := ReadL.lit _ #[S []] _ _ rfl
                              go_wp2_with fail
                              refine (w_CopyS ([] : List (List UInt8)) (by first | omega | simp) (some ⟨g, off, none⟩) c _ hr9).mono ?_
                              rintro e w9 ⟨⟨A10, c10, rfl, ho10⟩, hb10⟩
                              have hb10s := hb10.size
                              have hb10t : w7.heap.size + 1 ≤ w9.heap.size := by simpa using hb10s
                              have hrL2 := hrL.below hb10 (by simp)
                              go_wp2_with (at_builtin; refine wpList_app_any (l := ([] : List (List UInt8))) encS sl_strN [([] : List UInt8)] rfl _ _ rfl rfl ho10 rfl hrL2 (by first | (simp; done) | (simp; omega)) (by first | (simp [maxLen]; done) | (simp only [maxLen, List.length_cons, List.length_nil]; omega)) hb10s ?_; intro A11 c11 w11 ho11 hb11)
                              have hB11 : Below w5.heap.size w5 w11 := by
                                have t1 := hbel.trans (hb8.mono hbs)
                                have t2 := t1.alloc t1.size (.cells #[S []] 9)
                                have t3 := t2.trans (hb10.mono t2.size)
                                exact t3.trans (hb11.mono (by have := t2.size; simp at this ⊢; omega))
                              have hcap11 := ho11.le_cap
                              have hrd11 := ho11.read
                              go_roundg (wts [[]])
                              case measure => exact hmw
                              case rel => exact ⟨[], [[]], A11, _, c11, rfl, by first | rfl | go_num, by simp, by simp, by simpa using hcap11, by simp only [List.length_cons, List.length_nil] at *; omega, hrd11, hB11, rfl, Hq⟩
                            · have Hq := Lib.hid (show nrm [] (x2 :: r2) = R from hq)
                              have hmw : wts (x2 :: r2) < wts _ := hwr0
                              simp only [List.length_cons, List.length_nil] at hn1 hn2
                              clear hq
                              go_wp2_with fail
                              refine hcp.mono ?_
                              rintro e w7 ⟨⟨A8, c8, rfl, ho8⟩, hb8⟩
                              have hb8s := hb8.size
                              have hr9 : ReadL encS w7 w7.heap.size (some ⟨g, off, none⟩) [] := (hr8.below hb8 (Nat.le_refl _)).more hb8s
                              have hrL := ho8.read
                              go_wp2_with fail
                              refine (w_CopyS ([] : List (List UInt8)) (by first | omega | simp) (some ⟨g, off, none⟩) c _ hr9).mono ?_
                              rintro e w9 ⟨⟨A10, c10, rfl, ho10⟩, hb10⟩
                              have hb10s := hb10.size
                              have hb10t : w7.heap.size ≤ w9.heap.size := hb10s
                              have hrL2 := hrL.below hb10 (Nat.le_refl _)
                              go_wp2_with (at_builtin; refine wpList_app_any (l := ([] : List (List UInt8))) encS sl_strN (x2 :: r2) rfl _ _ rfl rfl ho10 rfl hrL2 (by first | (simp; done) | (simp; omega)) (by first | (simp [maxLen]; done) | (simp only [maxLen, List.length_cons, List.length_nil]; omega)) hb10s ?_; intro A11 c11 w11 ho11 hb11)
                              have hB11 : Below w5.heap.size w5 w11 := by
                                have t1 := hbel.trans (hb8.mono hbs)
                                have t3 := t1.trans (hb10.mono t1.size)
                                exact t3.trans (hb11.mono t1.size)
                              have hcap11 := ho11.le_cap
                              have hrd11 := ho11.read
                              go_roundg (wts (x2 :: r2))
                              case measure => exact hmw
                              case rel => exact ⟨[], (x2 :: r2), A11, _, c11, rfl, by first | rfl | go_num, by simp, by simp, by simpa using hcap11, by simp only [List.length_cons, List.length_nil] at *; omega, hrd11, hB11, rfl, Hq⟩
                          · rw [show ((d ++ [x]).length : Int) = (d.length : Int) + 1 from by simp]
                            simp only [List.length_append, List.length_cons, List.length_nil] at hn1 hn2
                            have hgs : ((d ++ [x]) ++ [46, 46] :: r)[(d.length + 1)]? = some [46, 46] := by simp
                            obtain ⟨g, off, rfl, hgb, hc0⟩ := hread.at_S hgs
                            have a1 : (((d.length : Int) + 1) : Int) < (n : Int) := by omega
                            have v1 : IntKind.i64.wrap ((((d.length : Int) + 1) : Int) + 1) = (((d.length : Int) + 1) : Int) + 1 := IntWalk.i64_in _ ⟨by omega, by omega⟩
                            have a5 : (0 : Int) < (d.length : Int) + 1 := by omega
                            have a6 : (0 : Int) ≤ (d.length : Int) + 1 := by omega
                            have a7 : ((d.length : Int) + 1).toNat = d.length + 1 := by omega
                            have hlen : ((d ++ [x]) ++ [46, 46] :: r).length = n := by simp; omega
                            obtain ⟨A7, c7, hs7, hr7, hc7⟩ := sl_at hread hlen hnc ((d.length + 1) + 1) ((((d.length : Int) + 1) : Int) + 1) (by omega) r.length (by omega)
                            rw [show ((d ++ [x]) ++ [46, 46] :: r).drop ((d.length + 1) + 1) = r from by first | (simp; done) | exact drop_mid2 _ _ _ _] at hr7
                            have hcp := w_CopyS r (by omega) A7 c7 wo hr7
                            clear hgs hlen hr7
                            skip
                            obtain ⟨hs8, hr8⟩ := sl_to hread hnc d.length (d.length : Int) rfl (by omega)
                            rw [show (d ++ [x] ++ [46, 46] :: r).take d.length = d from by rw [List.append_assoc]; exact List.take_left] at hr8
                            rcases r with _ | ⟨x2, r2⟩
                            · have Hq := Lib.hid (show nrm d [[]] = R from hq)
                              have hmw : wts [[]] < wts _ := hwr0
                              simp only [List.length_cons, List.length_nil] at hn1 hn2
                              clear hq
                              go_wp2_with fail
                              refine hcp.mono ?_
                              rintro e w7 ⟨⟨A8, c8, rfl, ho8⟩, hb8⟩
                              have hb8s := hb8.size
                              have hr9 : ReadL encS (w7.alloc (.cells #[S []] 9)) (w7.alloc (.cells #[S []] 9)).heap.size (some ⟨g, off, none⟩) d := ((hr8.below hb8 (Nat.le_refl _)).alloc hb8s _).more (by simp; omega)
                              have hrL : ReadL encS (w7.alloc (.cells #[S []] 9)) (w7.heap.size + 1) (some ⟨w7.heap.size, 0, none⟩) [([] : List UInt8)] := ReadL.lit _ #[S []] _ _ rfl
                              go_wp2_with fail
                              refine (w_CopyS d (by first | omega | simp) (some ⟨g, off, none⟩) c _ hr9).mono ?_
                              rintro e w9 ⟨⟨A10, c10, rfl, ho10⟩, hb10⟩
                              have hb10s := hb10.size
                              have hb10t : w7.heap.size + 1 ≤ w9.heap.size := by simpa using hb10s
                              have hrL2 := hrL.below hb10 (by simp)
                              go_wp2_with (at_builtin; refine wpList_app_any (l := d) encS sl_strN [([] : List UInt8)] rfl _ _ rfl rfl ho10 rfl hrL2 (by first | (simp; done) | (simp; omega)) (by first | (simp [maxLen]; done) | (simp only [maxLen, List.length_cons, List.length_nil]; omega)) hb10s ?_; intro A11 c11 w11 ho11 hb11)
                              have hB11 : Below w5.heap.size w5 w11 := by
                                have t1 := hbel.trans (hb8.mono hbs)
                                have t2 := t1.alloc t1.size (.cells #[S []] 9)
                                have t3 := t2.trans (hb10.mono t2.size)
                                exact t3.trans (hb11.mono (by have := t2.size; simp at this ⊢; omega))
                              have hcap11 := ho11.le_cap
                              have hrd11 := ho11.read
                              go_roundg (wts [[]])
                              case measure => exact hmw
                              case rel => exact ⟨d, [[]], A11, _, c11, rfl, by first | rfl | go_num, by simp, by simp, by simpa using hcap11, by simp only [List.length_cons, List.length_nil] at *; omega, hrd11, hB11, rfl, Hq⟩
                            · have Hq := Lib.hid (show nrm d (x2 :: r2) = R from hq)
                              have hmw : wts (x2 :: r2) < wts _ := hwr0
                              simp only [List.length_cons, List.length_nil] at hn1 hn2
                              clear hq
                              go_wp2_with fail
                              refine hcp.mono ?_
                              rintro e w7 ⟨⟨A8, c8, rfl, ho8⟩, hb8⟩
                              have hb8s := hb8.size
                              have hr9 : ReadL encS w7 w7.heap.size (some ⟨g, off, none⟩) d := (hr8.below hb8 (Nat.le_refl _)).more hb8s
                              have hrL := ho8.read
                              go_wp2_with fail
                              refine (w_CopyS d (by first | omega | simp) (some ⟨g, off, none⟩) c _ hr9).mono ?_
                              rintro e w9 ⟨⟨A10, c10, rfl, ho10⟩, hb10⟩
                              have hb10s := hb10.size
                              have hb10t : w7.heap.size ≤ w9.heap.size := hb10s
                              have hrL2 := hrL.below hb10 (Nat.le_refl _)
                              go_wp2_with (at_builtin; refine wpList_app_any (l := d) encS sl_strN (x2 :: r2) rfl _ _ rfl rfl ho10 rfl hrL2 (by first | (simp; done) | (simp; omega)) (by first | (simp [maxLen]; done) | (simp only [maxLen, List.length_cons, List.length_nil]; omega)) hb10s ?_; intro A11 c11 w11 ho11 hb11)
                              have hB11 : Below w5.heap.size w5 w11 := by
                                have t1 := hbel.trans (hb8.mono hbs)
                                have t3 := t1.trans (hb10.mono t1.size)
                                exact t3.trans (hb11.mono t1.size)
                              have hcap11 := ho11.le_cap
                              have hrd11 := ho11.read
                              go_roundg (wts (x2 :: r2))
                              case measure => exact hmw
                              case rel => exact ⟨d, (x2 :: r2), A11, _, c11, rfl, by first | rfl | go_num, by simp, by simp, by simpa using hcap11, by simp only [List.length_cons, List.length_nil] at *; omega, hrd11, hB11, rfl, Hq⟩
                        · have hd2 : isDot s = false := by simpa using hd
                          unfold isDot at hd2
                          have hd3 : ¬ s = [46] ∧ ¬ s = [46, 46] := by simpa using hd2
                          obtain ⟨m1, m2⟩ := hd3
                          have n1 : (s == [46]) = false := by simpa using m1
                          have n2 : (s == [46, 46]) = false := by simpa using m2
                          have Hq := Lib.hid (show nrm (done ++ [s]) r = R from by rw [← nrm_other m2 m1]; exact heq.out)
                          have hmw := wts_cons r s
                          have hgs : (done ++ s :: r)[done.length]? = some s := by simp
                          obtain ⟨g, off, rfl, hgb, hc0⟩ := hread.at_S hgs
                          have a1 : (done.length : Int) < (n : Int) := by omega
                          have hread2 : ReadL encS wo wo.heap.size (some ⟨g, off, none⟩) ((done ++ [s]) ++ r) := by rw [List.append_assoc]; exact hread
                          clear hd hd2 heq hread hgs
                          go_wp2_with fail
                          go_roundg (wts r)
                          case measure => exact hmw
                          case rel => exact ⟨done ++ [s], r, _, n, c, rfl, by simp, by simp; omega, by simp; omega, hnc, hn6, hread2, hbel, rfl, Hq⟩
          · rw [hcc] at hca2 hok
            rw [nrmE_bad hbig (by rw [hok]; simp)]
            go_enter Tryz.func26, Tryz.ntmps26
            go_wp2_with (first
              | (go_at_call 82; refine (hun _).mono ?_; rintro e w1 ⟨⟨A1, c1, rfl, ho1⟩, hb1⟩)
              | (go_at_call 83; refine (hpr _).mono ?_; rintro e w' ⟨rfl, rfl⟩)
              | (go_at_call 72; refine (hpl _).mono ?_; rintro e w' ⟨rfl, rfl⟩)
              | (go_at_call 84; refine (hca2 _).mono ?_; rintro e w2 ⟨rfl, hb2⟩))
            go_ret2
            exact ⟨rfl, hb1.trans (hb2.mono hb1.size)⟩
end Go.Proofs.YtemjoiaapfhenaaGreatDoor
end
