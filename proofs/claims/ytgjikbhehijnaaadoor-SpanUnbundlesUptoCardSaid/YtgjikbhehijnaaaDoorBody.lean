/- A row of bytes that a text was made into, and copies into it. No program in sight. -/
import Derived.Test.YtgjikbhehijnaaaDoorChg
import Derived.Laws.IdiomStrings
import Derived.Laws.CopyOwn
import Derived.Lib.LazyBuf
namespace Go.Larder
open Go.RowKit
set_option linter.unusedVariables false
set_option linter.unusedSimpArgs false
structure BodyAt (w : World) (g : Nat) (e : TypeId) (bs : List UInt8) : Prop where
  ty : ∃ cur fr, w.heap[g]? = some (.cells cur e fr)
  cell : ∀ (j : Nat) (b : UInt8), bs[j]? = some b → w.cell? ⟨g, j, none⟩ = some (.int .u8 (b.toNat : Int))
  free : ∀ j, j < bs.length → w.frozen? ⟨g, j, none⟩ = false
variable {w w' : World} {g : Nat} {e : TypeId} {bs : List UInt8}
theorem BodyAt.lt (h : BodyAt w g e bs) : g < w.heap.size := by
  obtain ⟨cur, fr, h⟩ := h.ty
  exact (Array.getElem?_eq_some_iff.1 h).1
theorem BodyAt.same (h : BodyAt w g e bs) (hk : w'.heap[g]? = w.heap[g]?) : BodyAt w' g e bs := by
  obtain ⟨cur, fr, h0⟩ := h.ty
  refine ⟨⟨cur, fr, hk.trans h0⟩, fun j b hb => ?_, fun j hj => ?_⟩
  · rw [← h.cell j b hb]; simp only [World.cell?, hk]
  · rw [← h.free j hj]; simp only [World.frozen?, hk]
theorem BodyAt.keep (h : BodyAt w g e bs) (hb : Below w.heap.size w w') : BodyAt w' g e bs := h.same (hb.block g h.lt)
theorem BodyAt.alloc (h : BodyAt w g e bs) (o : Obj) : BodyAt (w.alloc o) g e bs := h.keep ((Below.refl _ _).alloc (Nat.le_refl _) o)
theorem BodyAt.drew (h : BodyAt w g e bs) : BodyAt w.drew g e bs := h.same rfl
theorem BodyAt.read (h : BodyAt w g e bs) {B : Nat} (hB : g < B) : ReadL encB w B (some ⟨g, 0, none⟩) bs := by
  intro _
  refine ⟨g, 0, rfl, hB, fun k y hy r u hu => ?_⟩
  have hr : r = 0 := by
    have := (List.getElem?_eq_some_iff.1 hu).1
    simp [encB] at this; exact this
  subst hr
  have hu' : Value.int .u8 (y.toNat : Int) = u := by simpa [encB] using hu
  rw [← hu', show 0 + k * encB.size + 0 = k from by show 0 + k * 1 + 0 = k; omega]
  exact h.cell k y hy
theorem BodyAt.apart {α : Type} {E : ElemT α} {base c : Nat} {e' : TypeId} {A : Option Addr} {l : List α} (h : BodyAt w g e bs) (ho : OwnL E w base e' A c l) (hne : e' ≠ e) : ∀ a, A = some a → a.block ≠ g := by
  rintro a ha rfl
  obtain ⟨cur, h1⟩ := ho.type_ ha
  obtain ⟨cur2, fr, h2⟩ := h.ty
  rw [h1] at h2
  injection h2 with h2
  injection h2 with _ h2 _
  exact hne h2
theorem BodyAt.grn {A : Option Addr} (h : BodyAt w g e bs) (hg : w.grownBy w' (blkOf A)) (hne : ∀ a, A = some a → a.block ≠ g) : BodyAt w' g e bs :=
  h.same (hg.block g h.lt fun hb => by
    cases A with
    | none => simp [blkOf] at hb
    | some a' => simp [blkOf] at hb; exact hne a' rfl hb.symm)
theorem BodyAt.new (w : World) (s : List UInt8) (cap : Nat) (e : TypeId) : BodyAt (w.drew.alloc (.cells (bytesRow ⟨s.toArray⟩ cap) e ((bytesRow ⟨s.toArray⟩ cap).size, (bytesRow ⟨s.toArray⟩ cap).size + 1))) w.heap.size e s := by
  have hh : (w.drew.alloc (.cells (bytesRow ⟨s.toArray⟩ cap) e ((bytesRow ⟨s.toArray⟩ cap).size, (bytesRow ⟨s.toArray⟩ cap).size + 1))).heap[w.heap.size]? = some (.cells (bytesRow ⟨s.toArray⟩ cap) e ((bytesRow ⟨s.toArray⟩ cap).size, (bytesRow ⟨s.toArray⟩ cap).size + 1)) := heap_alloc_new w.drew _
  have hs : s.length ≤ (bytesRow ⟨s.toArray⟩ cap).size := by simp [bytesRow]
  refine ⟨⟨_, _, hh⟩, fun j b hb => ?_, fun j hj => ?_⟩
  · have hj := (List.getElem?_eq_some_iff.1 hb).1
    rw [cell_of_row _ _ j _ _ _ hh]
    simp [bytesRow, Array.getElem?_append, hj]
    rw [List.getElem?_eq_getElem hj] at hb
    injection hb with hb
    rw [hb]
  · simp only [World.frozen?, hh]
    simp
    omega
theorem setCells_ty : ∀ (vs : List Value) (o : Nat) (w : World), (∃ cur fr, w.heap[g]? = some (.cells cur e fr)) → ∃ cur fr, (w.setCells g o vs).heap[g]? = some (.cells cur e fr)
  | [], _, _, h => h
  | v :: r, o, w, ⟨cur, fr, h⟩ => setCells_ty r (o + 1) _ ⟨cur.setIfInBounds o v, fr, by rw [setCell_eq_setRow w g o cur e fr v h]; exact setRow_heap w g cur _ e fr h⟩
theorem setCells_same : ∀ (vs : List Value) (o : Nat) (w0 w : World), SameBut (fun j => j = g) w0 w → SameBut (fun j => j = g) w0 (w.setCells g o vs)
  | [], _, _, _, h => h
  | v :: r, o, w0, w, h => setCells_same r (o + 1) w0 _ (h.setCell ⟨g, o, none⟩ v (fun _ => rfl))
theorem BodyAt.set (h : BodyAt w g e bs) (o : Nat) (t : List UInt8) (ho : o + t.length ≤ bs.length) : BodyAt (w.setCells g o (t.map fun x => Value.int .u8 (x.toNat : Int))) g e (bs.take o ++ (t ++ bs.drop (o + t.length))) := by
  have hlen : (bs.take o ++ (t ++ bs.drop (o + t.length))).length = bs.length := by simp only [List.length_append, List.length_take, List.length_drop]; omega
  refine ⟨setCells_ty _ _ _ h.ty, fun j b hb => ?_, fun j hj => by rw [World.frozen?_setCells]; exact h.free j (by rw [hlen] at hj; exact hj)⟩
  rcases Nat.lt_or_ge j o with h1 | h1
  · rw [World.cell?_setCells_out _ _ _ _ _ (fun _ _ => .inl h1)]
    rw [List.getElem?_append_left (by rw [List.length_take]; omega), List.getElem?_take, if_pos h1] at hb
    exact h.cell j b hb
  · rw [List.getElem?_append_right (by rw [List.length_take]; omega), List.length_take, Nat.min_eq_left (by omega)] at hb
    rcases Nat.lt_or_ge (j - o) t.length with h2 | h2
    · rw [List.getElem?_append_left h2] at hb
      have := World.cell?_setCells_in g (t.map fun x => Value.int .u8 (x.toNat : Int)) o w (fun i hi => by
        rw [List.length_map] at hi
        rw [h.cell (o + i) bs[o + i] (List.getElem?_eq_getElem (by omega))]; rfl) (j - o) (by rw [List.length_map]; exact h2)
      rw [show o + (j - o) = j from by omega] at this
      rw [this, List.getElem_map]
      rw [List.getElem?_eq_getElem h2] at hb
      injection hb with hb
      rw [hb]
    · rw [World.cell?_setCells_out _ _ _ _ _ (fun _ _ => .inr (by rw [List.length_map]; show o + t.length ≤ j; omega))]
      rw [List.getElem?_append_right h2, List.getElem?_drop] at hb
      exact h.cell j b (by rw [← hb]; congr 1; omega)
theorem wpList_copy_str {P : Program} {w : World} {ops : Array Oper} {rest : List Oper} {o : Oper} {a : Act} {Q : Exit → Act → World → Prop} (hgd : o.guard = none) (d s : Operand) (dT sT : TypeId)
    (ho : o.op = .call { callee := .builtin .copy, args := #[d, s], argTypes := #[dT, sT] }) (elem : TypeId) (hu : P.underlying dT = some (.slice elem)) (hz : ∀ w, (Go.sizeOf elem).run P w = .ok 1 w)
    {g off dLen dCap : Nat} {bs : List UInt8} (t : List UInt8) (hd : a.eval d = .slice (some ⟨g, off, none⟩) dLen dCap) (hs : a.eval s = .string ⟨t.toArray⟩) (hb : BodyAt w g e bs) (hle : t.length ≤ dLen) (hfit : off + t.length ≤ bs.length)
    (h : ∀ w', BodyAt w' g e (bs.take off ++ (t ++ bs.drop (off + t.length))) → SameBut (fun j => j = g) w w' → wpList P ops Q rest (a.put o.dst (goInt t.length)) w') : wpList P ops Q (o :: rest) a w := by
  refine wpList_plain hgd fun K hK => ?_
  have hrun := run_copy_string (P := P) w dT sT o.type elem g off dLen dCap ⟨t.toArray⟩ hu hz (by rw [ba_size]; exact hle) (fun j hj => by
    rw [ba_size] at hj
    rw [hb.cell (off + j) bs[off + j] (List.getElem?_eq_getElem (by omega))]; rfl) (fun j hj => by rw [ba_size] at hj; exact hb.free _ (by omega))
  have hh := h _ (hb.set off t hfit) (setCells_same _ _ _ _ (SameBut.refl w))
  unfold Oper.wp
  simp only [execOp, ho, resolve, invoke, builtin, Sem.run_bind, Sem.run_pure, Result.andThen_ok, List.map_toArray, List.map_cons, List.map_nil, hd, hs, hrun]
  rw [ba_size]
  exact hK _ _ hh
end Go.Larder
