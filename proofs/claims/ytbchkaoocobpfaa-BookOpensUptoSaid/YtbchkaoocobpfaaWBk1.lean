/- Walks: books: a record, one more record, a value set, deleted, asked for; a new book. -/
import Derived.Test.YtbchkaoocobpfaaWBkB
import Derived.Test.YtbchkaoocobpfaaSpecBook
import Derived.Test.YtbchkaoocobpfaaWFrame
namespace Go.Larder
open Go.RowKit
theorem getM_map {β γ : Type} (f : β → γ) (m : List (List UInt8 × β)) (k : List UInt8) : getM (m.map fun p => (p.1, f p.2)) k = (getM m k).map f := by
  induction m with
  | nil => rfl
  | cons p r ih =>
    obtain ⟨a, u⟩ := p
    by_cases h : k = a
    · simp [getM, h]
    · simp [getM, h, ih]
theorem putM_map {β γ : Type} (f : β → γ) (m : List (List UInt8 × β)) (k : List UInt8) (v : β) : (putM m k v).map (fun p => (p.1, f p.2)) = putM (m.map fun p => (p.1, f p.2)) k (f v) := by
  induction m with
  | nil => rfl
  | cons p r ih =>
    obtain ⟨a, u⟩ := p
    by_cases h : k = a
    · simp [putM, h]
    · simp [putM, h, ih]
theorem delM_map {β γ : Type} (f : β → γ) (m : List (List UInt8 × β)) (k : List UInt8) : (delM m k).map (fun p => (p.1, f p.2)) = delM (m.map fun p => (p.1, f p.2)) k := by
  induction m with
  | nil => rfl
  | cons p r ih =>
    obtain ⟨a, u⟩ := p
    by_cases h : k = a
    · simp [delM, h]
    · simp [delM, h, ih]
end Go.Larder
namespace Go.Proofs.Ytbchkaoocobpfaa
open Go.RowKit Go.Larder
set_option linter.unusedVariables false
set_option linter.unusedSimpArgs false
def valS (m : Kv) : List (List UInt8 × Value) := m.map fun p => (p.1, S p.2)
/-- a book: what it keeps, how many records, their text -/
structure BookAt (w : World) (b gm : Nat) (p v : Value) (m : Kv) (n : Nat) (img : List UInt8) : Prop where
  bld : BkBld w b (.map (some gm)) (.int .i64 (n : Int)) p v img
  map : MapAt w gm (valS m)
/-- the blocks of a book -/
def FB (b gm : Nat) (v : Value) (j : Nat) : Prop := j = b ∨ j = gm ∨ v.ownBlock = some j
def BkAfter (w : World) (b gm : Nat) (v : Value) (m : Kv) (n : Nat) (img : List UInt8) (w' : World) : Prop :=
  ∃ p' v', BookAt w' b gm p' v' m n img ∧ NewV w v v' ∧ SameBut (FB b gm v) w w'
theorem BookAt.ne {w : World} {b gm : Nat} {p v : Value} {m : Kv} {n : Nat} {img : List UInt8} (h : BookAt w b gm p v m n img) : gm ≠ b := h.map.box_ne h.bld.box
theorem BookAt.neRow {w : World} {b gm : Nat} {p v : Value} {m : Kv} {n : Nat} {img : List UInt8} (h : BookAt w b gm p v m n img) : v.ownBlock ≠ some gm := by
  intro h0
  obtain ⟨es, c, h1, _⟩ := h.map
  rcases h.bld.own.2 with ⟨rfl, _⟩ | ⟨g, cap, cur, fz, rfl, _, hg, _⟩
  · simp [Value.ownBlock] at h0
  · simp only [Value.ownBlock, Option.some.injEq] at h0
    subst h0
    rw [h1] at hg
    cases hg
theorem BookAt.but {w w' : World} {B : Nat → Prop} {b gm : Nat} {p v : Value} {m : Kv} {n : Nat} {img : List UInt8} (h : BookAt w b gm p v m n img) (hs : SameBut B w w') (hd : ∀ j, FB b gm v j → ¬ B j) : BookAt w' b gm p v m n img :=
  ⟨h.bld.but hs (hd b (.inl rfl)) (fun j hj => hd j (.inr (.inr hj))), h.map.but hs (hd gm (.inr (.inl rfl)))⟩
theorem BookAt.keep {w w' : World} {b gm : Nat} {p v : Value} {m : Kv} {n : Nat} {img : List UInt8} (h : BookAt w b gm p v m n img) (hb : Below w.heap.size w w') : BookAt w' b gm p v m n img :=
  ⟨h.bld.same (hb.block _ h.bld.lt) (fun j hj => hb.block _ (h.bld.rowLt hj)), h.map.keep hb⟩
theorem BookAt.flt {w : World} {b gm : Nat} {p v : Value} {m : Kv} {n : Nat} {img : List UInt8} (h : BookAt w b gm p v m n img) {j : Nat} (hj : FB b gm v j) : j < w.heap.size := by
  rcases hj with rfl | rfl | hj
  · exact h.bld.lt
  · exact h.map.lt
  · exact h.bld.rowLt hj
theorem BkAfter.refl {w : World} {b gm : Nat} {p v : Value} {m : Kv} {n : Nat} {img : List UInt8} (h : BookAt w b gm p v m n img) : BkAfter w b gm v m n img w := ⟨p, v, h, NewV.refl _ _, SameBut.refl _⟩
theorem lookT (w : World) : (zeroValue 9).run Try.prog w = .ok (S []) w := by kernel_rfl
theorem w_BNew (w : World) : Calls Try.prog 20 #[] w fun e w' => e = .returned (.pointer (some ⟨w.heap.size + 1, 0, none⟩)) ∧ BookAt w' (w.heap.size + 1) w.heap.size (.pointer none) (.slice none 0 0) [] 0 [] ∧ Below w.heap.size w w' := by
  have hm := MapAt.made w
  have bx := BoxAt.new (w.alloc (.map #[] 0)) [.map (some w.heap.size), .int .i64 0, .pointer none, .slice none 0 0] 88
  rw [World.size_alloc] at bx
  have hm2 := hm.alloc (.cells #[.map (some w.heap.size), .int .i64 0, .pointer none, .slice none 0 0] 88)
  have hB := ((Below.refl w.heap.size w).alloc (Nat.le_refl _) (.map #[] 0)).alloc (by simp) (.cells #[.map (some w.heap.size), .int .i64 0, .pointer none, .slice none 0 0] 88)
  have hmm := @run_makeMap Try.prog
  go_enter Try.func20, Try.ntmps20
  go_wp2_with fail
  go_ret
  exact ⟨rfl, ⟨⟨bx, .inl rfl, World.ownsRowF_nil _ _ _ _, .inl rfl⟩, hm2⟩, hB⟩
theorem w_record (kd : Nat) (hkd : kd < 256) (key val : List UInt8) (hk : key.length ≤ 50) (hv : val.length ≤ 900) (w : World) :
    Calls Try.prog 49 #[.int .i64 (kd : Int), S key, S val] w fun e w' => e = .returned (S ([UInt8.ofNat kd, UInt8.ofNat key.length] ++ key ++ val)) ∧ Below w.heap.size w w' := by
  have k2 := fun (W : World) (a b : Int) => run_lit_str (P := Try.prog) 84 9 Try.underlying84 Try.underlying5 Try.underlying9 W [a, b] #[.int .u8 a, .int .u8 b] rfl 2 2 rfl W.heap.size rfl
  go_enter Try.func49, Try.ntmps49
  go_wp2_with fail
  go_ret
  refine ⟨ret_S ?_, by go_grown⟩
  simp
set_option maxHeartbeats 1000000 in
theorem w_add (b gm : Nat) (p v : Value) (m : Kv) (n : Nat) (img r : List UInt8) (hn : n ≤ 100000000) (hi : img.length ≤ 1000000000000) (hr : r.length ≤ 1000) (w : World) (h : BookAt w b gm p v m n img) :
    Calls Try.prog 48 #[.pointer (some ⟨b, 0, none⟩), S r] w fun e w' => e = .returned (.tuple #[]) ∧ BkAfter w b gm v m (n + 1) (img ++ frameL n r) w' := by
  have c1 := h.bld.box.cell (j := 1) rfl
  have hf := w_Frame n r (by omega) hr w
  have hfl := frameL_len n r
  obtain ⟨fr, hfr⟩ : ∃ fr, frameL n r = fr := ⟨_, rfl⟩
  rw [hfr] at hf hfl ⊢
  have hfl2 : fr.length ≤ 1008 := by omega
  have hfl3 : 0 < fr.length := by omega
  clear hfl hfr
  go_enter Try.func48, Try.ntmps48
  go_wp2_with fail
  refine Calls.mono hf ?_
  rintro e w1 ⟨rfl, hb1⟩
  have h1 := h.keep hb1
  go_wp2_with fail
  refine Calls.mono (w_WriteB b _ _ p v img fr w1 h1.bld (by omega) hfl3) ?_
  rintro e w2 ⟨rfl, v2, hb2, hnv, hs2⟩
  have c2 := hb2.box.cell (j := 1) rfl
  have f2 := hb2.box.free 1
  have hgb := h1.ne
  have hgr := h1.neRow
  have hm2 : MapAt w2 gm (valS m) := h1.map.but hs2 (by rintro (h0 | h0); exact hgb h0; exact hgr h0)
  have hb3 := hb2.setMany (.int .i64 ((n + 1 : Nat) : Int))
  have hm3 := hm2.setCell ⟨b, 1, none⟩ hgb (.int .i64 ((n + 1 : Nat) : Int))
  have hN : ((n : Int) + 1) = ((n + 1 : Nat) : Int) := by omega
  have hfin : BkAfter w b gm v m (n + 1) (img ++ fr) (w2.setCell ⟨b, 1, none⟩ (.int .i64 ((n + 1 : Nat) : Int))) :=
    ⟨_, v2, ⟨hb3, hm3⟩, fun j hj => (hnv j hj).imp id (fun h0 => Nat.le_trans hb1.size h0), (((((SameBut.refl w).keep hb1).trans hs2 (B := FB b gm v) (fun j _ hj => by rcases hj with h0 | h0; exact .inl h0; exact .inr (.inr h0))).setCell _ _ (fun _ => .inl rfl)))⟩
  rw [← hN] at hfin
  clear hb2 hm2 hb3 hm3 hs2 hnv h h1 hN
  go_wp2_with fail
  go_end0
  exact ⟨rfl, hfin⟩
end Go.Proofs.Ytbchkaoocobpfaa
