/- BookOpens: for every image and every list of steps, of bulk at most 1048576 together, a book found again answers as the reference does. -/
import Derived.Test.YtbchkaoocobpfaaRows
import Derived.Test.YtbchkaoocobpfaaFrame
import Derived.Lib.SmallJoins
import Derived.Test.YtbchkaoocobpfaaWBkS
import Derived.Test.YtbchkaoocobpfaaOpenSt
import Derived.Test.YtbchkaoocobpfaaBoxC
namespace Go.Proofs.Ytbchkaoocobpfaa.bookOpens
open Go.RowKit Go.Larder Go.ChangeShapes Go.WideShapes Go.ChangeAt
open Go.ChangeMaps (open_string shut_string)
open Go.Joins (open_agg2 open_agg3)
set_option linter.unusedVariables false
set_option linter.unusedSimpArgs false
open Go.Proofs.Ytbchkaoocobpfaa
theorem wp_world {P : Program} {c : Code} {Q : Exit → Act → World → Prop} {a : Act} {W : World} (B : World → Prop) (hB : B W) (h : ∀ W', B W' → Code.wp P c Q a W') : Code.wp P c Q a W := h W hB
theorem le_trans_ {a b c d : Nat} (h1 : a ≤ b) (h2 : b ≤ c) (h3 : c ≤ d) : a ≤ d := Nat.le_trans h1 (Nat.le_trans h2 h3)
theorem bulk_len : ∀ (l : List Stp), 10 * l.length ≤ (l.map bulkSt).sum
  | [] => by simp
  | x :: l => by
    have := bulk_len l
    simp only [List.length_cons, List.map_cons, List.sum_cons, bulkSt]
    omega
theorem bulk_mem : ∀ (l : List Stp) (x : Stp), x ∈ l → bulkSt x ≤ (l.map bulkSt).sum
  | y :: l, x, h => by
    simp only [List.map_cons, List.sum_cons]
    rcases List.mem_cons.1 h with rfl | h
    · omega
    · have := bulk_mem l x h; omega
theorem img_eq {w : World} {b gm c : Nat} {v : Value} {A : Option Addr} {m : Kv} {L : List Ent} (h : Both w b gm c v A m L) (hl : L.length ≤ 1048576) :
    Calls Try.prog 22 #[.pointer (some ⟨b, 0, none⟩)] w (fun e w' => e = .returned (S (imgGo 0 L)) ∧ Both w' b gm c v A m L ∧ SameBut (FB b gm v) w w') ∧
    ∀ w1, Both w1 b gm c v A m L → Calls Try.prog 23 #[.pointer (some ⟨c, 0, none⟩)] w1 fun e w' => e = .returned (S (imgGo 0 L)) ∧ Both w' b gm c v A m L ∧ Below w1.heap.size w1 w' := by
  obtain ⟨p, hb⟩ := h.bk
  obtain ⟨cap, hr⟩ := h.rf
  refine ⟨(w_BImage hb).mono ?_, fun w1 h1 => ?_⟩
  · rintro e w' ⟨rfl, hb', hs⟩
    exact ⟨rfl, ⟨⟨p, hb'⟩, ⟨cap, hr.but hs fun j hj hf => h.apart j hf hj⟩, h.R, h.apart⟩, hs⟩
  · obtain ⟨cap1, hr1⟩ := h1.rf
    refine (w_RImage hl h1.R.ok hr1).mono ?_
    rintro e w' ⟨rfl, hb'⟩
    exact ⟨rfl, h1.keep hb', hb'⟩
theorem set_nil {w : World} {b gm c : Nat} {v : Value} {A : Option Addr} {m : Kv} {L : List Ent} (h : Both w b gm c v A m L) : Calls Try.prog 24 #[.pointer (some ⟨b, 0, none⟩), S [], S []] w fun e w' => e = .returned (.int .i64 1) ∧ w = w' := by
  obtain ⟨p, hb⟩ := h.bk
  have he : setE m [] [] = 1 := by simp [setE]
  have := w_BSet_no [] [] (by simp) (by simp) (by rw [he]; decide) hb
  rw [he] at this
  exact this
theorem step_next {w wo w2 : World} {b gm c : Nat} {v v' : Value} {A A' : Option Addr} (hB : Below w.heap.size w wo) (hF : ∀ j, FF b gm c v A j → w.heap.size ≤ j) (hn : ∀ j, FF b gm c v' A' j → FF b gm c v A j ∨ wo.heap.size ≤ j) (hs : SameBut (FF b gm c v A) wo w2) : Below w.heap.size w w2 ∧ (∀ j, FF b gm c v' A' j → w.heap.size ≤ j) :=
  ⟨hB.trans (hs.toBelow hB.size fun j hj hf => by have := hF j hf; omega), fun j hj => (hn j hj).elim (hF j) fun h => Nat.le_trans hB.size h⟩
set_option maxHeartbeats 4000000 in
set_option maxRecDepth 100000 in
theorem walkL {w0 : World} (im0 : List UInt8) (him0 : im0.length ≤ 1048576) (l : List Stp) (A : Option Addr) (cl : Nat) (hbk : (l.map bulkSt).sum ≤ 1048576) (hok : ∀ x ∈ l, stpOk w0 x) (hsum : im0.length + (l.map bulkSt).sum ≤ 1048576) (w : World) (hr : ReadL encSt w w.heap.size A l) :
    Calls Try.prog 5 #[S im0, .slice A l.length cl] w fun e w' => e = .returned (.bool true) ∧ Below w.heap.size w w' := by
  have hbl := bulk_len l
  have hrs := recover_small im0
  have ho1 := fun W => w_BOpen im0 (by omega) W
  have ho2 := fun W => w_ROpen im0 (by omega) W
  have hRo := openGo_ok (recover im0).1 [] [] BookR.new
  have hRl := openGo_len (recover im0).1 [] []
  generalize (openGo (recover im0).1 [] []).1 = m0 at *
  generalize (openGo (recover im0).1 [] []).2 = L0 at *
  have hL0 : 8 * L0.length ≤ im0.length := by have := hrs.2; simp only [List.length_nil] at hRl; omega
  clear hrs hRl
  have hl0 : L0.length + l.length ≤ 200000 := by omega
  have Hbk := Lib.hid hbk
  have Hok := Lib.hid hok
  clear hbk hok hbl hsum hL0
  go_enter Try.func5, Try.ntmps5
  go_wp2_with fail
  refine Calls.mono (ho1 _) ?_
  intro e w1 hp
  obtain ⟨b, gm, p, v, rfl, h1, hf1, hb1⟩ := hp
  have ho2' := ho2 w1
  clear ho1 ho2
  go_wp2_with fail
  refine Calls.mono ho2' ?_
  intro e w2 hp
  obtain ⟨c, A0, cap0, rfl, h2, hf2, hb2⟩ := hp
  have hbo0 : Both w2 b gm c v A0 m0 L0 := ⟨⟨p, h1.keep hb2⟩, ⟨cap0, h2⟩, hRo, fun j hj hf => by
    have := h1.flt hj
    have := hf2 j hf
    omega⟩
  have hB := hb1.trans (hb2.mono hb1.size)
  have hF0 : ∀ j, FF b gm c v A0 j → w.heap.size ≤ j := fun j hj => by
    rcases hj with hj | hj
    · exact hf1 j hj
    · exact Nat.le_trans hb1.size (hf2 j hj)
  clear h1 h2 hf1 hf2 hb2 hRo
  generalize hIm : (imgGo 0 L0).length = nI at *
  clear hIm
  have hnE : ((nI : Int) == (nI : Int)) = true := by simp
  go_wp2_with fail
  go_loopw [10, 30] (fun _ i' wr => ∃ (i : Nat) (v : Value) (A2 : Option Addr) (m : Kv) (L : List Ent), i' = .int .i64 i ∧ i ≤ l.length ∧ L.length ≤ L0.length + i ∧ Both wr b gm c v A2 m L ∧ (∀ j, FF b gm c v A2 j → w.heap.size ≤ j) ∧ Below w.heap.size w wr) (fun _ i' _ => l.length - (intOf i').toNat)
  case atStart => exact ⟨0, _, _, m0, L0, rfl, by omega, by omega, hbo0, hF0, hB⟩
  case round =>
    clear hbo0 hF0 hB hb1
    have hbk := Hbk.out
    have hok := Hok.out
    obtain ⟨i, v, A2, m, L, rfl, hi, hLl, hbo, hF, hbel⟩ := hrel
    obtain ⟨wo, hwo⟩ : ∃ wo, wo = wr := ⟨_, rfl⟩
    subst hwo
    by_cases hlt : i < l.length
    · obtain ⟨x, hxi, hd⟩ := drop_step hlt
      have hxm := List.mem_of_getElem? hxi
      have hxo := (hok x hxm).1
      have hxb := bulk_mem l x hxm
      have hxs : x.s.length ≤ 1048576 := le_trans_ (show x.s.length ≤ bulkSt x by unfold bulkSt; omega) hxb hbk
      have hxt : x.t.length ≤ 1048576 := le_trans_ (show x.t.length ≤ bulkSt x by unfold bulkSt; omega) hxb hbk
      obtain ⟨g, off, hA, hgb, hc0⟩ := (hr.below hbel (Nat.le_refl _)).at_ hxi
      subst hA
      have hra : wo.rangeAt g (off + i * 22) (encSt.enc x) := fun j u hu => hc0 j u hu
      have hstp := fun (W : World) (hW : Both W b gm c v A2 m L) => w_bookStep x hxo hxs hxt (by omega) hW
      obtain ⟨xs, hxse⟩ : ∃ xs, encSt.enc x = xs := ⟨_, rfl⟩
      have hlen : xs.length = 22 := by rw [← hxse]; exact encSt.len x
      have hone : xs.toArray.all (·.oneCell') = true := by
        rw [← hxse]
        simp only [List.all_toArray, List.all_eq_true]
        exact encSt.one x
      rw [hxse] at hra hstp
      have hsz : ((Try.prog).info? 39).map (·.size) = some xs.toArray.size := by rw [List.size_toArray, hlen]; kernel_rfl
      have hszL : ((Try.prog).info? 39).map (·.size) = some xs.length := by rw [hlen]; kernel_rfl
      have Hold := Lib.hid (show (22 : Nat) = xs.toArray.size from by rw [List.size_toArray, hlen])
      clear hxse hlen hxi hd hxm hxo hxb hxs hxt hc0
      go_upto_region 8 with (first
        | (refine wpList_load_mid rfl 39 _ rfl g (off + i * 22) rfl xs _ hra Try.underlying39 rfl hszL ?_)
        | (refine wpList_store_row rfl 39 _ _ rfl wo.heap.size xs.toArray rfl rfl 39 _ (heap_alloc_new _ _) hsz Hold.out hone ?_))
      refine wp_world (fun W' => BoxAt W' wo.heap.size 39 xs ∧ Below wo.heap.size wo W') ⟨setRow_heap _ _ _ _ _ _ (heap_alloc_new _ _), below_setRow ((Below.refl _ _).alloc (Nat.le_refl _) _) (Nat.le_refl _) _⟩ ?_
      rintro wp ⟨bx, hbp⟩
      clear hra hone Hold hszL
      generalize hgo : wo.heap.size = go at *
      have hstp1 := hstp wp (hbo.keep (by rw [hgo]; exact hbp))
      go_wp2_with (refine wpList_load_row (ty := 39) rfl _ rfl go rfl 39 xs.toArray (0, 0) _ bx Try.underlying39 rfl hsz ?_)
      refine Calls.mono hstp1 ?_
      rintro e w3 ⟨rfl, v3, A3, m3, L3, hbo3, hl3, hn3, hs3⟩
      have hbp' : Below wo.heap.size wo wp := by rw [hgo]; exact hbp
      obtain ⟨hbel3, hF3⟩ := step_next hbel hF (fun j hj => (hn3 j hj).imp id fun h0 => Nat.le_trans hbp'.size h0) (((SameBut.refl wo).keep hbp').trans hs3 fun _ _ h => h)
      clear hstp hn3 hs3 hbo hF hbel hbp hbp' bx hsz
      go_wp2_with fail
      go_roundw
      case rel => exact ⟨i + 1, v3, A3, m3, L3, by go_num, by omega, by omega, hbo3, hF3, hbel3⟩
      case measure => simp [intOf]; omega
    · have k0 := set_nil hbo
      obtain ⟨j1, j2⟩ := img_eq hbo (by omega)
      have hll : L.length ≤ 1048576 := by omega
      generalize hI : imgGo 0 L = im at *
      clear hI
      have himE : (im == im) = true := by simp
      go_wp2_with fail
      refine Calls.mono k0 ?_
      rintro e w3 ⟨rfl, rfl⟩
      go_wp2_with fail
      refine Calls.mono j1 ?_
      rintro e w4 ⟨rfl, hbo4, hs4⟩
      have j2' := j2 w4 hbo4
      go_wp2_with fail
      refine Calls.mono j2' ?_
      rintro e w5 ⟨rfl, hbo5, hb5⟩
      obtain ⟨hbel5, hF5⟩ := step_next (v' := v) (A' := A2) hbel hF (fun j hj => .inl hj) ((hs4.mono fun j _ hj => .inl hj).keep hb5)
      obtain ⟨k1, k2, k3⟩ := keys_eq hbo5 hll
      generalize sortL (keysM m) = ks at *
      clear hs4 hbel hF
      go_wp2_with fail
      refine Calls.mono k1 ?_
      intro e w6 hp6
      obtain ⟨⟨A6, c6, rfl, hr6⟩, hb6⟩ := hp6
      have k2' := k2 w6 hb6
      go_wp2_with fail
      refine Calls.mono k2' ?_
      intro e w7 hp7
      obtain ⟨⟨A7, c7, rfl, hr7⟩, hb7⟩ := hp7
      have k3' := k3 w6 w7 A6 A7 c6 c7 hr6.read hb7 hr7.read
      go_wp2_with fail
      refine Calls.mono k3' ?_
      rintro e w8 ⟨rfl, rfl⟩
      have hfin := (hbel5.trans (hb6.mono hbel5.size)).trans (hb7.mono (hbel5.trans (hb6.mono hbel5.size)).size)
      go_wp2_with fail
      go_ret
      exact ⟨rfl, hfin⟩

theorem own : ownKnob Try.prog.godebug = none := by kernel_rfl
theorem laidOut : laidOutB Try.prog = true := by kernel_rfl
set_option maxRecDepth 100000 in
theorem lifted (os : Os) (started : os.Started) (H : Type) (enc : TypeId × Value → H) (F : Stop.Interp) :
    ReturnsInHanded {} Try.checked os 5 .any ((Rows.OpenSpec.upto Rows.bookOpensSpec).pre6 enc Try.prog Try.f5 Rows.bookOpensUptoRow.domain false) (((Rows.OpenSpec.upto Rows.bookOpensSpec).at F).post enc Try.prog Try.f5 false true false false) := by
  refine cond_shaped (C := Try.checked) (s := Rows.OpenSpec.upto Rows.bookOpensSpec) (k := Rows.uptoSmall) rfl own started (by kernel_rfl) Try.func5
    (OpenSpec.witness (enc := enc) (C := Try.checked) (s := Rows.OpenSpec.upto Rows.bookOpensSpec) (k := Rows.uptoSmall) rfl false ⟨#[], #[.string ByteArray.empty, .slice none 0 0], []⟩ 8 (by kernel_rfl) (by kernel_rfl) (by kernel_rfl)
      (x := ([.lit (.string []), .nil], [], [])) (by kernel_rfl) rfl (by kernel_rfl)) ?_
  intro W base args ds gs before hval0 hW hcnd hk0 hsh _
  have hval : ∀ (j : Nat) t v, Try.f5.params[j]? = some t → args[j]? = some v → Value.okWide Try.prog W .any base t v := hval0
  have hW' := hW
  obtain ⟨p, q, hA0, hV, rfl, hfz, hnd⟩ := hW
  have hA : DataW.TrodAll enc Try.prog W 0 (fun _ => true) true Try.f5.params.toList args.toList ds p := hA0
  rw [Try.params5] at hA hval
  obtain ⟨v0, vs0, d0, ds0, p0, q0, hargs, rfl, rfl, h0, r0⟩ := trodAll_cons hA
  obtain ⟨v1, vs1, d1, ds1, p1, q1, rfl, rfl, rfl, h1, r1⟩ := trodAll_cons r0
  obtain ⟨rfl, rfl, rfl⟩ := trodAll_nil r1
  obtain rfl : args = #[v0, v1] := by cases args; simp_all
  obtain ⟨rfl, rfl⟩ := trodVars_none hV
  simp only [List.append_nil] at hk0
  have hbulk := of_decide_eq_true hk0
  simp only [Rows.uptoBulkAll] at hbulk
  have k0 := h0
  have lt0 : ∀ x ∈ p0, x.block < W.heap.size := by obtain ⟨m, hm⟩ := k0; exact DataW.trod_lt m _ _ _ hm
  obtain ⟨s0, rfl, rfl, rfl, w0⟩ := open_string Try.underlying9 (hval 0 9 v0 rfl rfl) h0
  obtain ⟨⟨l0⟩⟩ := s0
  have b0 : l0.length ≤ 1048576 := by simp only [Rows.uptoBulk] at hbulk; omega
  have k1 := h1
  have lt1 : ∀ x ∈ p1, x.block < W.heap.size := by obtain ⟨m, hm⟩ := k1; exact DataW.trod_lt m _ _ _ hm
  obtain ⟨A1, l1, c1, rfl, rd1, ok1, bk1⟩ := open_steps (hval 1 22 v1 rfl rfl) h1
  have b1 : (l1.map bulkSt).sum ≤ 1048576 := by (try simp only [Rows.uptoBulk] at hbulk); omega
  clear hA0 hval0
  refine (walkL l0 b0 l1 A1 c1 b1 ok1 (by simp only [Rows.uptoBulk] at hbulk bk1; omega) W rd1).mono fun e W' ⟨he, bel⟩ => ?_
  subst he
  exact ⟨_, rfl, _, _, _, [], _, [], hW', trodAll_mk1 (shut_bool Try.underlying4 _), (trodAll_cons_mk (Below.trod laidOut (by kernel_rfl) (of_decide_eq_true (by kernel_rfl)) k0 bel lt0) (trodAll_cons_mk (Below.trod laidOut (by kernel_rfl) (of_decide_eq_true (by kernel_rfl)) k1 bel lt1) trodAll_mk0)), rfl, bel.frame _, fun h => by cases h⟩

/-- The statement. -/
theorem proved : Rows.BookOpensUptoSaid :=
  OpenClaim.holds_of_cond 5 Try.f5 rfl rfl rfl rfl rfl rfl rfl ⟨rfl, rfl, rfl, rfl, rfl⟩ rfl rfl rfl rfl rfl (by kernel_rfl) Try.func5 (by kernel_rfl)
    (of_decide_eq_true (by kernel_rfl)) (by unfold Func.isWrapper; first | (rw [if_pos (by decide +kernel)]; kernel_rfl) | (rw [if_neg (by decide +kernel)]; exact ⟨rfl, rfl⟩))
    (fun os started H enc _ F => lifted os started H enc F)
#print axioms proved
end Go.Proofs.Ytbchkaoocobpfaa.bookOpens
