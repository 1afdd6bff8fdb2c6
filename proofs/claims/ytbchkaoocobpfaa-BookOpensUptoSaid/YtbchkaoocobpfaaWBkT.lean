/- Walks: books: both sides' calls, whatever comes of them; both books together. -/
import Derived.Test.YtbchkaoocobpfaaWBk5
import Derived.Test.YtbchkaoocobpfaaWBr6
namespace Go.Larder
open Go.RowKit
set_option linter.unusedVariables false
set_option linter.unusedSimpArgs false
def setM (m : Kv) (k v : List UInt8) : Kv := if setE m k v = 0 then putM m k v else m
def setLs (m : Kv) (L : List Ent) (k v : List UInt8) : List Ent := if setE m k v = 0 then L ++ [(true, k, v)] else L
def delE (m : Kv) (k : List UInt8) : Int := if (getM m k).isSome then 0 else 4
def delMs (m : Kv) (k : List UInt8) : Kv := if (getM m k).isSome then delM m k else m
def delLs (m : Kv) (L : List Ent) (k : List UInt8) : List Ent := if (getM m k).isSome then L ++ [(false, k, [])] else L
theorem setRb {m : Kv} {L : List Ent} (h : BookR m L) (k v : List UInt8) : BookR (setM m k v) (setLs m L k v) := by
  unfold setM setLs
  by_cases h0 : setE m k v = 0
  · rw [if_pos h0, if_pos h0]; exact h.set h0
  · rw [if_neg h0, if_neg h0]; exact h
theorem delRb {m : Kv} {L : List Ent} (h : BookR m L) (k : List UInt8) : BookR (delMs m k) (delLs m L k) := by
  unfold delMs delLs
  cases hg : getM m k with
  | none => simpa using h
  | some y => simpa using h.del hg
theorem setLs_len (m : Kv) (L : List Ent) (k v : List UInt8) : (setLs m L k v).length ≤ L.length + 1 := by unfold setLs; split <;> simp
theorem delLs_len (m : Kv) (L : List Ent) (k : List UInt8) : (delLs m L k).length ≤ L.length + 1 := by unfold delLs; split <;> simp
theorem keysGo_le (L : List Ent) : ∀ (r : List Ent) (out : List (List UInt8)), (r.foldl (addK L) out).length ≤ out.length + r.length
  | [], out => by simp
  | e :: r, out => by
    have h1 := keysGo_le L r (addK L out e)
    have h2 : (addK L out e).length ≤ out.length + 1 := by unfold addK; split <;> simp
    simp only [List.foldl_cons, List.length_cons]
    omega
theorem compL_le {m : Kv} {L : List Ent} (h : BookR m L) : (compL m).length ≤ L.length := by
  rw [compL_len, h.count]
  have := keysGo_le L L []
  simpa [keysU] using this
end Go.Larder
namespace Go.Proofs.Ytbchkaoocobpfaa
open Go.RowKit Go.Larder
set_option linter.unusedVariables false
set_option linter.unusedSimpArgs false
variable {w w' w1 w2 : World} {b gm c cap : Nat} {p v : Value} {A : Option Addr} {m : Kv} {L : List Ent}
theorem imgB (hR : BookR m L) (hl : L.length ≤ 1048576) : (imgGo 0 L).length ≤ 1000000000000 := by have := imgGo_len L 0 hR.ok; omega
theorem w_BSetA (k x : List UInt8) (hk : k.length ≤ 4000000) (hx : x.length ≤ 4000000) (hR : BookR m L) (hl : L.length ≤ 1048576) (h : BookAt w b gm p v m L.length (imgGo 0 L)) :
    Calls Try.prog 24 #[.pointer (some ⟨b, 0, none⟩), S k, S x] w fun e w' => e = .returned (.int .i64 (setE m k x)) ∧ BkAfter w b gm v (setM m k x) (setLs m L k x).length (imgGo 0 (setLs m L k x)) w' := by
  by_cases h0 : setE m k x = 0
  · have e1 : setM m k x = putM m k x := if_pos h0
    have e2 : setLs m L k x = L ++ [(true, k, x)] := if_pos h0
    rw [e1, e2, h0, imgGo_snoc, Nat.zero_add, List.length_append]
    exact w_BSet_ok k x h0 (by omega) (imgB hR hl) h
  · have e1 : setM m k x = m := if_neg h0
    have e2 : setLs m L k x = L := if_neg h0
    rw [e1, e2]
    refine (w_BSet_no k x hk hx h0 h).mono ?_
    rintro e w' ⟨rfl, rfl⟩
    exact ⟨rfl, BkAfter.refl h⟩
theorem w_RSetA (k x : List UInt8) (hk : k.length ≤ 4000000) (hx : x.length ≤ 4000000) (hR : BookR m L) (hl : L.length ≤ 1048576) (h : RefB w c A cap L) :
    Calls Try.prog 37 #[.pointer (some ⟨c, 0, none⟩), S k, S x] w fun e w' => e = .returned (.int .i64 (setE m k x)) ∧ RAfter w c A (setLs m L k x) w' := by
  have hc : (keysU L).length ≤ 100 := by rw [← hR.count]; exact hR.few
  by_cases h0 : setE m k x = 0
  · have e2 : setLs m L k x = L ++ [(true, k, x)] := if_pos h0
    rw [e2, h0]
    exact w_RSet_ok k x (by omega) hR.ok hc (by rw [← setE_eq hR]; exact h0) h
  · have e2 : setLs m L k x = L := if_neg h0
    rw [e2]
    have h1 := h0
    rw [setE_eq hR] at h1 ⊢
    refine (w_RSet_no k x hk hx (by omega) hR.ok hc h1 h).mono ?_
    rintro e w' ⟨rfl, hb⟩
    exact ⟨rfl, RAfter.step hb (RAfter.refl (h.keep hb))⟩
theorem w_BDelA (k : List UInt8) (hR : BookR m L) (hl : L.length ≤ 1048576) (h : BookAt w b gm p v m L.length (imgGo 0 L)) :
    Calls Try.prog 38 #[.pointer (some ⟨b, 0, none⟩), S k] w fun e w' => e = .returned (.int .i64 (delE m k)) ∧ BkAfter w b gm v (delMs m k) (delLs m L k).length (imgGo 0 (delLs m L k)) w' := by
  cases hg : getM m k with
  | some y =>
    have e0 : delE m k = 0 := by simp [delE, hg]
    have e1 : delMs m k = delM m k := by simp [delMs, hg]
    have e2 : delLs m L k = L ++ [(false, k, [])] := by simp [delLs, hg]
    rw [e0, e1, e2, imgGo_snoc, Nat.zero_add, List.length_append]
    exact w_BDel_ok k y hg (hR.keyLen hg).2.2 (by omega) (imgB hR hl) h
  | none =>
    have e0 : delE m k = 4 := by simp [delE, hg]
    have e1 : delMs m k = m := by simp [delMs, hg]
    have e2 : delLs m L k = L := by simp [delLs, hg]
    rw [e0, e1, e2]
    refine (w_BDel_no k hg h).mono ?_
    rintro e w' ⟨rfl, rfl⟩
    exact ⟨rfl, BkAfter.refl h⟩
theorem w_RDelA (k : List UInt8) (hR : BookR m L) (hl : L.length ≤ 1048576) (h : RefB w c A cap L) :
    Calls Try.prog 39 #[.pointer (some ⟨c, 0, none⟩), S k] w fun e w' => e = .returned (.int .i64 (delE m k)) ∧ RAfter w c A (delLs m L k) w' := by
  cases hg : getM m k with
  | some y =>
    have e0 : delE m k = 0 := by simp [delE, hg]
    have e2 : delLs m L k = L ++ [(false, k, [])] := by simp [delLs, hg]
    rw [e0, e2]
    exact w_RDel_ok k y (by omega) hR.ok (by rw [← hR.get]; exact hg) h
  | none =>
    have e0 : delE m k = 4 := by simp [delE, hg]
    have e2 : delLs m L k = L := by simp [delLs, hg]
    rw [e0, e2]
    refine (w_RDel_no k (by omega) hR.ok (by rw [← hR.get]; exact hg) h).mono ?_
    rintro e w' ⟨rfl, hb⟩
    exact ⟨rfl, RAfter.step hb (RAfter.refl (h.keep hb))⟩
/-- both books, which keep the same and lie apart -/
structure Both (w : World) (b gm c : Nat) (v : Value) (A : Option Addr) (m : Kv) (L : List Ent) : Prop where
  bk : ∃ p, BookAt w b gm p v m L.length (imgGo 0 L)
  rf : ∃ cap, RefB w c A cap L
  R : BookR m L
  apart : ∀ j, FB b gm v j → ¬ FR c A j
def FF (b gm c : Nat) (v : Value) (A : Option Addr) (j : Nat) : Prop := FB b gm v j ∨ FR c A j
theorem Both.flt (h : Both w b gm c v A m L) {j : Nat} (hj : FF b gm c v A j) : j < w.heap.size := by
  obtain ⟨p, hb⟩ := h.bk
  obtain ⟨cap, hr⟩ := h.rf
  rcases hj with hj | hj
  · exact hb.flt hj
  · exact hr.flt hj
theorem Both.but {B : Nat → Prop} (h : Both w b gm c v A m L) (hs : SameBut B w w') (hd : ∀ j, FF b gm c v A j → ¬ B j) : Both w' b gm c v A m L := by
  obtain ⟨p, hb⟩ := h.bk
  obtain ⟨cap, hr⟩ := h.rf
  exact ⟨⟨p, hb.but hs fun j hj => hd j (.inl hj)⟩, ⟨cap, hr.but hs fun j hj => hd j (.inr hj)⟩, h.R, h.apart⟩
theorem Both.keep (h : Both w b gm c v A m L) (hb : Below w.heap.size w w') : Both w' b gm c v A m L := h.but (B := fun j => w.heap.size ≤ j) (Go.Larder.Below.same hb) fun j hj h0 => by have := h.flt hj; omega
/-- what a step leaves -/
def StepP (w : World) (b gm c : Nat) (v : Value) (A : Option Addr) (L : List Ent) (w' : World) : Prop :=
  ∃ v' A' m' L', Both w' b gm c v' A' m' L' ∧ L'.length ≤ L.length + 1 ∧ (∀ j, FF b gm c v' A' j → FF b gm c v A j ∨ w.heap.size ≤ j) ∧ SameBut (FF b gm c v A) w w'
theorem fb_new {v' : Value} (hn : NewV w v v') {j : Nat} (hj : FB b gm v' j) : FB b gm v j ∨ w.heap.size ≤ j := by
  rcases hj with h | h | h
  · exact .inl (.inl h)
  · exact .inl (.inr (.inl h))
  · rcases hn j h with h | h
    · exact .inl (.inr (.inr h))
    · exact .inr h
theorem fr_new {A' : Option Addr} (hn : ∀ j, blkOf A' = some j → blkOf A = some j ∨ w.heap.size ≤ j) {j : Nat} (hj : FR c A' j) : FR c A j ∨ w.heap.size ≤ j := by
  rcases hj with h | h
  · exact .inl (.inl h)
  · rcases hn j h with h | h
    · exact .inl (.inr h)
    · exact .inr h
theorem Both.step {m' : Kv} {L' : List Ent} (h : Both w b gm c v A m L) (h1 : BkAfter w b gm v m' L'.length (imgGo 0 L') w1) (h2 : ∀ cap, RefB w1 c A cap L → RAfter w1 c A L' w2) (hR : BookR m' L') (hl : L'.length ≤ L.length + 1) : StepP w b gm c v A L w2 := by
  obtain ⟨p1, v1, hb1, hn1, hs1⟩ := h1
  obtain ⟨cap, hr⟩ := h.rf
  have hr1 : RefB w1 c A cap L := hr.but hs1 fun j hj hf => h.apart j hf hj
  obtain ⟨A2, cap2, hr2, hn2, hs2⟩ := h2 cap hr1
  have hdis1 : ∀ j, FB b gm v1 j → ¬ FR c A j := fun j hf hj => by
    rcases fb_new hn1 hf with h0 | h0
    · exact h.apart j h0 hj
    · have := hr.flt hj; omega
  have hb2 : BookAt w2 b gm p1 v1 m' L'.length (imgGo 0 L') := hb1.but hs2 fun j hj => hdis1 j hj
  have hdis2 : ∀ j, FB b gm v1 j → ¬ FR c A2 j := fun j hf hj => by
    rcases fr_new hn2 hj with h0 | h0
    · exact hdis1 j hf h0
    · have := hb1.flt hf; omega
  refine ⟨v1, A2, m', L', ⟨⟨p1, hb2⟩, ⟨cap2, hr2⟩, hR, hdis2⟩, hl, fun j hj => ?_, ?_⟩
  · rcases hj with hj | hj
    · rcases fb_new hn1 hj with h0 | h0
      · exact .inl (.inl h0)
      · exact .inr h0
    · rcases fr_new hn2 hj with h0 | h0
      · exact .inl (.inr h0)
      · exact .inr (Nat.le_trans hs1.size h0)
  · exact (hs1.mono fun j _ hj => .inl hj).trans hs2 fun j _ hj => .inr hj
theorem StepP.stay (h : Both w b gm c v A m L) (hb : SameBut (FB b gm v) w w1) (hb1 : ∃ p, BookAt w1 b gm p v m L.length (imgGo 0 L)) : StepP w b gm c v A L w1 := by
  obtain ⟨cap, hr⟩ := h.rf
  exact ⟨v, A, m, L, ⟨hb1, ⟨cap, hr.but hb fun j hj hf => h.apart j hf hj⟩, h.R, h.apart⟩, by omega, fun j hj => .inl hj, hb.mono fun j _ hj => .inl hj⟩
end Go.Proofs.Ytbchkaoocobpfaa
