/- Parts of a body read back. No program in sight. -/
import Derived.Test.YtgjikbhehijnaaaDoorSpecBun
import Derived.Lib.IndexMore
namespace Go.Larder
set_option linter.unusedSimpArgs false
set_option linter.unusedVariables false
abbrev CCs : List UInt8 := [13, 10, 13, 10]
abbrev Prt := (Int × Int) × List UInt8
/-- one part, as it is written: its total, the two bytes behind it -/
def prtL (bd : List UInt8) (x : Prt) (z : Int) (t : List UInt8) : List UInt8 := bunHead bd ++ (ctL x.1.1 x.1.2 z ++ (CCs ++ (x.2 ++ t)))
def unbEnd (bd : List UInt8) : List UInt8 := [45, 45] ++ bd ++ [45, 45, 13, 10]
theorem head_end (bd r : List UInt8) : bunHead bd ++ r ≠ unbEnd bd := by
  intro h
  unfold bunHead unbEnd at h
  rw [List.append_assoc, List.append_assoc, List.append_assoc] at h
  have h2 := List.append_cancel_left (List.append_cancel_left h)
  simp at h2
theorem ctL_no13 (a b z : Int) : ∀ x ∈ ctL a b z, x ≠ 13 := by
  intro x hx
  simp only [ctL, List.mem_append] at hx
  rcases hx with ((((hx | hx) | hx) | hx) | hx) | hx
  · revert x hx; decide
  · exact dL_not (by decide) x hx
  · revert x hx; decide
  · exact dL_not (by decide) x hx
  · revert x hx; decide
  · exact dL_not (by decide) x hx
theorem occ_at {s sub : List UInt8} {j : Nat} (h : Lib.occAt s sub j = true) : s.drop j = sub ++ s.drop (j + sub.length) := by
  unfold Lib.occAt at h
  rw [List.isPrefixOf_iff_prefix] at h
  obtain ⟨r, hr⟩ := h
  rw [← List.drop_drop, ← hr, List.drop_left]
theorem index_no13 {p r : List UInt8} (h : ∀ x ∈ p, x ≠ 13) : Lib.index (p ++ (CCs ++ r)) CCs = (p.length : Int) := by
  have ho : Lib.occAt (p ++ (CCs ++ r)) CCs p.length = true := by
    unfold Lib.occAt
    rw [List.drop_left, List.isPrefixOf_iff_prefix]
    exact List.prefix_append _ _
  rcases Lib.index_spec (p ++ (CCs ++ r)) CCs with ⟨_, h1⟩ | ⟨i, hi, hil, h1, h2⟩
  · rw [h1 p.length (by simp)] at ho; cases ho
  · rcases Nat.lt_trichotomy i p.length with hlt | rfl | hgt
    · have := occ_at h1
      have h3 : (p ++ (CCs ++ r))[i]? = some 13 := by
        have h4 := congrArg (fun l => l[0]?) this
        simpa using h4
      rw [List.getElem?_append_left hlt] at h3
      exact absurd rfl (h 13 (List.mem_of_getElem? h3))
    · exact hi
    · exact absurd ho (by rw [h2 p.length hgt]; simp)
theorem cutM_at {s sub : List UInt8} {i : Nat} (h : Lib.index s sub = (i : Int)) : Lib.cut s sub = (s.take i, s.drop (i + sub.length), true) := by
  unfold Lib.cut
  rw [h, if_pos (by omega)]
  simp
theorem cut_no13 {p r : List UInt8} (h : ∀ x ∈ p, x ≠ 13) : Lib.cut (p ++ (CCs ++ r)) CCs = (p, r, true) := by
  rw [cutM_at (index_no13 h), List.take_left, ← List.drop_drop, List.drop_left, List.drop_left]
theorem index_true {s : List UInt8} {i : Nat} (h : Lib.index s CCs = (i : Int)) : s = s.take i ++ (CCs ++ s.drop (i + 4)) ∧ i + 4 ≤ s.length := by
  rcases Lib.index_spec s CCs with ⟨h0, _⟩ | ⟨j, hj, hjl, h1, h2⟩
  · rw [h0] at h; omega
  · rw [hj] at h
    obtain rfl : j = i := by omega
    have := occ_at h1
    have h3 := congrArg List.length this
    simp only [List.length_append, List.length_drop, List.length_cons, List.length_nil] at h3
    refine ⟨?_, by omega⟩
    conv => lhs; rw [← List.take_append_drop j s, this]
    rfl
/-- one part with its total and the two bytes behind it -/
abbrev Gp := Prt × Int × List UInt8
def gOK (g : Gp) : Prop := ctOK g.1.1.1 g.1.1.2 g.2.1 = true ∧ g.1.2.length = (g.1.1.2 - g.1.1.1).toNat ∧ g.2.2.length = 2
def goodG (z : Int) (x : Prt) : Gp := (x, z, [13, 10])
def encG (bd : List UInt8) : List Gp → List UInt8 → List UInt8
  | [], r => r
  | g :: l, r => prtL bd g.1 g.2.1 g.2.2 ++ encG bd l r
theorem encG_app (bd : List UInt8) (l m : List Gp) (r : List UInt8) : encG bd (l ++ m) r = encG bd l (encG bd m r) := by
  induction l with
  | nil => rfl
  | cons g l ih => simp only [List.cons_append, encG, ih]
theorem prt_inj {bd : List UInt8} {g g' : Gp} {r r' : List UInt8} (h1 : gOK g) (h2 : gOK g') (h : prtL bd g.1 g.2.1 g.2.2 ++ r = prtL bd g'.1 g'.2.1 g'.2.2 ++ r') : g = g' ∧ r = r' := by
  obtain ⟨⟨⟨a, b⟩, x⟩, z, t⟩ := g
  obtain ⟨⟨⟨a', b'⟩, x'⟩, z', t'⟩ := g'
  obtain ⟨k1, k2, k3⟩ := h1
  obtain ⟨q1, q2, q3⟩ := h2
  simp only at k1 k2 k3 q1 q2 q3
  unfold prtL at h
  simp only [List.append_assoc] at h
  have h := List.append_cancel_left h
  have e := congrArg (fun s => Lib.cut s CCs) h
  change Lib.cut _ CCs = Lib.cut _ CCs at e
  rw [cut_no13 (ctL_no13 _ _ _), cut_no13 (ctL_no13 _ _ _)] at e
  injection e with e1 e2
  injection e2 with e2 _
  obtain ⟨rfl, rfl, rfl⟩ := ct_unique (s := ctL a b z) ⟨k1, rfl⟩ ⟨q1, e1.symm⟩
  obtain ⟨rfl, e3⟩ := List.append_inj e2 (by rw [k2, q2])
  obtain ⟨rfl, e4⟩ := List.append_inj e3 (by rw [k3, q3])
  exact ⟨rfl, e4⟩
theorem enc_split {bd : List UInt8} {z : Int} : ∀ (gs : List Gp) (l : List Prt) (r : List UInt8), (∀ g ∈ gs, gOK g) → (∀ x ∈ l, gOK (goodG z x)) → encG bd gs r = encG bd (l.map (goodG z)) (unbEnd bd) → ∃ k m, l = k ++ m ∧ gs = k.map (goodG z) ∧ r = encG bd (m.map (goodG z)) (unbEnd bd)
  | [], l, r, _, _, h => ⟨[], l, rfl, rfl, h⟩
  | g :: gs, [], r, _, _, h => by
    simp only [encG, List.map_nil, prtL, List.append_assoc] at h
    exact absurd h (head_end bd _)
  | g :: gs, x :: l, r, h1, h2, h => by
    simp only [encG, List.map_cons] at h
    obtain ⟨rfl, h3⟩ := prt_inj (h1 g (by simp)) (h2 x (by simp)) h
    obtain ⟨k, m, rfl, rfl, hr⟩ := enc_split gs l r (fun g hg => h1 g (by simp [hg])) (fun x hx => h2 x (by simp [hx])) h3
    exact ⟨x :: k, m, rfl, rfl, hr⟩
def byteAt (x : Prt) (p : Int) : Option UInt8 := if x.1.1 ≤ p then x.2[(p - x.1.1).toNat]? else none
def agreeP (l : List Prt) : Prop := ∀ x ∈ l, ∀ y ∈ l, ∀ p c d, byteAt x p = some c → byteAt y p = some d → c = d
structure UnbOK (bd : List UInt8) (z : Int) (s : List UInt8) (l : List Prt) : Prop where
  enc : s = encG bd (l.map (goodG z)) (unbEnd bd)
  ok : ∀ x ∈ l, gOK (goodG z x)
  one : 1 ≤ l.length
  most : l.length ≤ 20
  agree : agreeP l
theorem good_inj {z : Int} : ∀ {l m : List Prt}, l.map (goodG z) = m.map (goodG z) → l = m
  | [], [], _ => rfl
  | [], _ :: _, h => by cases h
  | _ :: _, [], h => by cases h
  | x :: l, y :: m, h => by
    rw [List.map_cons, List.map_cons] at h
    injection h with h1 h2
    injection h1 with h1 _
    rw [h1, good_inj h2]
theorem enc_end {bd : List UInt8} {z : Int} : ∀ {m : List Prt}, encG bd (m.map (goodG z)) (unbEnd bd) = unbEnd bd → m = []
  | [], _ => rfl
  | x :: m, h => by
    simp only [encG, List.map_cons, prtL, List.append_assoc] at h
    exact absurd h (head_end bd _)
/-- what came so far and what is left -/
structure UnbAt (bd : List UInt8) (z : Int) (s : List UInt8) (done : List Prt) (r : List UInt8) : Prop where
  enc : s = encG bd (done.map (goodG z)) r
  ok : ∀ x ∈ done, gOK (goodG z x)
theorem UnbAt.split {bd : List UInt8} {z : Int} {s r : List UInt8} {done l : List Prt} (h : UnbAt bd z s done r) (hl : UnbOK bd z s l) : ∃ m, l = done ++ m ∧ r = encG bd (m.map (goodG z)) (unbEnd bd) := by
  obtain ⟨k, m, rfl, hg, hr⟩ := enc_split (z := z) (done.map (goodG z)) l r (fun g hg => by obtain ⟨x, hx, rfl⟩ := List.mem_map.1 hg; exact h.ok x hx) hl.ok (by rw [← h.enc, hl.enc])
  rw [good_inj hg]
  exact ⟨m, rfl, hr⟩
theorem UnbAt.end_ {bd : List UInt8} {z : Int} {s : List UInt8} {done l : List Prt} (h : UnbAt bd z s done (unbEnd bd)) (hl : UnbOK bd z s l) : l = done := by
  obtain ⟨m, rfl, hr⟩ := h.split hl
  rw [enc_end hr.symm, List.append_nil]
theorem unb_unique {bd : List UInt8} {z : Int} {s : List UInt8} {l m : List Prt} (h : UnbOK bd z s l) (h2 : UnbOK bd z s m) : l = m :=
  (UnbAt.end_ ⟨h2.enc, h2.ok⟩ h)
/-- the head of what is left, where it can be read to the end -/
theorem UnbAt.next {bd : List UInt8} {z : Int} {s r : List UInt8} {done l : List Prt} (h : UnbAt bd z s done r) (hl : UnbOK bd z s l) (hr : r ≠ unbEnd bd) :
    ∃ a b x r', gOK (goodG z ((a, b), x)) ∧ r = bunHead bd ++ (ctL a b z ++ (CCs ++ (x ++ ([13, 10] ++ r')))) ∧ done.length < 20 := by
  obtain ⟨m, rfl, hrr⟩ := h.split hl
  cases m with
  | nil => exact absurd hrr hr
  | cons x m =>
    obtain ⟨⟨a, b⟩, x⟩ := x
    refine ⟨a, b, x, encG bd (m.map (goodG z)) (unbEnd bd), hl.ok _ (by simp), ?_, ?_⟩
    · rw [hrr]
      simp only [encG, List.map_cons, prtL, goodG, List.append_assoc]
    · have := hl.most
      simp only [List.length_append, List.length_cons] at this
      omega
theorem UnbAt.step {bd : List UInt8} {z : Int} {s r r' : List UInt8} {done : List Prt} (h : UnbAt bd z s done r) {a b : Int} {x : List UInt8} (ho : gOK (goodG z ((a, b), x))) (hr : r = bunHead bd ++ (ctL a b z ++ (CCs ++ (x ++ ([13, 10] ++ r'))))) : UnbAt bd z s (done ++ [((a, b), x)]) r' := by
  refine ⟨?_, ?_⟩
  · rw [List.map_append, encG_app, h.enc, hr]
    simp only [List.map_cons, List.map_nil, encG, prtL, goodG, List.append_assoc]
  · intro y hy
    rw [List.mem_append, List.mem_singleton] at hy
    rcases hy with hy | rfl
    · exact h.ok y hy
    · exact ho
/-- a body that the parts are laid in -/
def layP (body : List UInt8) (x : Prt) : List UInt8 := body.take x.1.1.toNat ++ (x.2 ++ body.drop (x.1.1.toNat + x.2.length))
def layAll (z : Nat) (l : List Prt) : List UInt8 := l.foldl layP (List.replicate z 0)
theorem lay_len {body : List UInt8} {x : Prt} (h : x.1.1.toNat + x.2.length ≤ body.length) : (layP body x).length = body.length := by
  unfold layP
  simp only [List.length_append, List.length_take, List.length_drop]
  omega
theorem lay_get {body : List UInt8} {x : Prt} (h0 : 0 ≤ x.1.1) (h : x.1.1.toNat + x.2.length ≤ body.length) (p : Nat) : (layP body x)[p]? = match byteAt x p with | some c => some c | none => body[p]? := by
  unfold layP byteAt
  rcases Nat.lt_or_ge p x.1.1.toNat with h1 | h1
  · rw [if_neg (by omega), List.getElem?_append_left (by rw [List.length_take]; omega), List.getElem?_take, if_pos h1]
  · rw [if_pos (by omega), List.getElem?_append_right (by rw [List.length_take]; omega), List.length_take, Nat.min_eq_left (by omega)]
    rw [show ((p : Int) - x.1.1).toNat = p - x.1.1.toNat from by omega]
    rcases Nat.lt_or_ge (p - x.1.1.toNat) x.2.length with h2 | h2
    · rw [List.getElem?_append_left h2, List.getElem?_eq_getElem h2]
    · rw [List.getElem?_append_right h2, List.getElem?_eq_none h2, List.getElem?_drop]
      congr 1
      omega
theorem layAll_snoc (z : Nat) (l : List Prt) (x : Prt) : layAll z (l ++ [x]) = layP (layAll z l) x := by unfold layAll; rw [List.foldl_append]; rfl
theorem layAll_len {z : Nat} (l : List Prt) (h : ∀ x ∈ l, x.1.1.toNat + x.2.length ≤ z) : (layAll z l).length = z := by
  unfold layAll
  suffices ∀ (l : List Prt) (body : List UInt8), body.length = z → (∀ x ∈ l, x.1.1.toNat + x.2.length ≤ z) → (l.foldl layP body).length = z from this l _ (by simp) h
  intro l
  induction l with
  | nil => exact fun _ h _ => h
  | cons x l ih =>
    intro body hb h
    exact ih _ ((lay_len (by rw [hb]; exact h x (by simp))).trans hb) fun y hy => h y (by simp [hy])
theorem layAll_get {z : Nat} (l : List Prt) (h : ∀ x ∈ l, 0 ≤ x.1.1 ∧ x.1.1.toNat + x.2.length ≤ z) (ha : agreeP l) : ∀ x ∈ l, ∀ (p : Nat) (c : UInt8), byteAt x p = some c → (layAll z l)[p]? = some c := by
  unfold layAll
  suffices ∀ (m d : List Prt) (body : List UInt8), body.length = z → (∀ x ∈ d ++ m, 0 ≤ x.1.1 ∧ x.1.1.toNat + x.2.length ≤ z) → agreeP (d ++ m) → (∀ x ∈ d, ∀ (p : Nat) (c : UInt8), byteAt x p = some c → body[p]? = some c) →
      ∀ x ∈ d ++ m, ∀ (p : Nat) (c : UInt8), byteAt x p = some c → (m.foldl layP body)[p]? = some c from this l [] _ (by simp) h ha (fun x hx => by cases hx)
  intro m
  induction m with
  | nil => intro d body _ _ _ hd x hx; rw [List.append_nil] at hx; exact hd x hx
  | cons y m ih =>
    intro d body hb h ha hd
    have hy := h y (by simp)
    rw [show d ++ y :: m = (d ++ [y]) ++ m from by simp] at h ha ⊢
    refine ih (d ++ [y]) (layP body y) ((lay_len (by rw [hb]; exact hy.2)).trans hb) h ha ?_
    intro x hx p c hc
    rw [lay_get hy.1 (by rw [hb]; exact hy.2)]
    cases hyp : byteAt y p with
    | some e =>
      rw [ha x (by rw [List.mem_append]; exact .inl hx) y (by simp) p c e hc hyp]
    | none =>
      rw [List.mem_append, List.mem_singleton] at hx
      rcases hx with hx | rfl
      · exact hd x hx p c hc
      · rw [hc] at hyp; cases hyp
theorem cut_byte {body : List UInt8} {x : Prt} (h0 : 0 ≤ x.1.1) (h1 : x.2.length = (x.1.2 - x.1.1).toNat) (h2 : x.1.2 ≤ body.length) (h3 : x.1.1 ≤ x.1.2) : cutL body x.1.1 x.1.2 = x.2 ↔ ∀ (p : Nat) (c : UInt8), byteAt x p = some c → body[p]? = some c := by
  have hlen : (cutL body x.1.1 x.1.2).length = x.2.length := by unfold cutL; rw [List.length_take, List.length_drop]; omega
  have hget : ∀ i, i < x.2.length → (cutL body x.1.1 x.1.2)[i]? = body[x.1.1.toNat + i]? := by
    intro i hi
    unfold cutL
    rw [List.getElem?_take, if_pos (by omega), List.getElem?_drop]
  constructor
  · intro h p c hc
    unfold byteAt at hc
    split at hc
    · next h4 =>
      have hi := (List.getElem?_eq_some_iff.1 hc).1
      have := hget _ hi
      rw [h, hc] at this
      rw [this]
      congr 1
      omega
    · cases hc
  · intro h
    refine List.ext_getElem? fun i => ?_
    rcases Nat.lt_or_ge i x.2.length with hi | hi
    · rw [hget i hi, List.getElem?_eq_getElem hi]
      refine h _ _ ?_
      unfold byteAt
      rw [if_pos (by omega), show (((x.1.1.toNat + i : Nat) : Int) - x.1.1).toNat = i from by omega, List.getElem?_eq_getElem hi]
    · rw [List.getElem?_eq_none (by omega), List.getElem?_eq_none hi]
/-- the bundle of the body's parts -/
theorem bunGo_ok {bd s : List UInt8} : ∀ {l : List (Int × Int)} {acc t : List UInt8}, bunGo bd s l acc = .ok t → (∀ x ∈ l, ctOK x.1 x.2 s.length = true) ∧ t = acc ++ encG bd (l.map fun x => goodG s.length (x, cutL s x.1 x.2)) (unbEnd bd)
  | [], acc, t, h => by
    rw [bunGo] at h
    injection h with h
    subst h
    exact ⟨fun x hx => (by cases hx), by simp [encG, unbEnd, List.append_assoc]⟩
  | x :: l, acc, t, h => by
    cases hc : ctOK x.1 x.2 s.length
    · rw [bunGo_no hc] at h; cases h
    · rw [bunGo_yes hc] at h
      obtain ⟨h1, h2⟩ := bunGo_ok h
      refine ⟨fun y hy => ?_, ?_⟩
      · rcases List.mem_cons.1 hy with rfl | hy
        · exact hc
        · exact h1 y hy
      · rw [h2]
        simp only [List.map_cons, encG, prtL, goodG, bunPart, List.append_assoc]
theorem bunGo_go {bd s : List UInt8} : ∀ {l : List (Int × Int)} {acc : List UInt8}, (∀ x ∈ l, ctOK x.1 x.2 s.length = true) → bunGo bd s l acc = .ok (acc ++ encG bd (l.map fun x => goodG s.length (x, cutL s x.1 x.2)) (unbEnd bd))
  | [], acc, _ => by rw [bunGo]; simp [encG, unbEnd, List.append_assoc]
  | x :: l, acc, h => by
    rw [bunGo_yes (h x (by simp)), bunGo_go fun y hy => h y (by simp [hy])]
    simp only [List.map_cons, encG, prtL, goodG, bunPart, List.append_assoc]
structure UnbR (bd : List UInt8) (s : List UInt8) (gs : List Gp) (r : List UInt8) : Prop where
  enc : s = encG bd gs r
  ok : ∀ g ∈ gs, gOK g
theorem UnbR.at_ {bd : List UInt8} {z : Int} {s r : List UInt8} {gs : List Gp} {l : List Prt} (h : UnbR bd s gs r) (hl : UnbOK bd z s l) : ∃ k m, l = k ++ m ∧ gs = k.map (goodG z) ∧ r = encG bd (m.map (goodG z)) (unbEnd bd) ∧ UnbAt bd z s k r := by
  obtain ⟨k, m, rfl, rfl, hr⟩ := enc_split (z := z) gs l r h.ok hl.ok (by rw [← h.enc, hl.enc])
  exact ⟨k, m, rfl, rfl, hr, h.enc, fun x hx => hl.ok x (by simp [hx])⟩
theorem UnbR.step {bd : List UInt8} {s r r' t : List UInt8} {gs : List Gp} (h : UnbR bd s gs r) {a b z : Int} {x : List UInt8} (ho : gOK (((a, b), x), z, t)) (hr : r = bunHead bd ++ (ctL a b z ++ (CCs ++ (x ++ (t ++ r'))))) : UnbR bd s (gs ++ [(((a, b), x), z, t)]) r' := by
  refine ⟨?_, ?_⟩
  · rw [encG_app, h.enc, hr]
    simp only [encG, prtL, List.append_assoc]
  · intro y hy
    rw [List.mem_append, List.mem_singleton] at hy
    rcases hy with hy | rfl
    · exact h.ok y hy
    · exact ho
theorem good_all {z : Int} {x : Prt} (h : gOK (goodG z x)) : 0 ≤ x.1.1 ∧ x.1.1 < x.1.2 ∧ x.1.2 ≤ z ∧ x.2.length = (x.1.2 - x.1.1).toNat ∧ z ≤ 99999 := by
  obtain ⟨h1, h2, _⟩ := h
  have := ctOK_iff.1 h1
  simp only [goodG] at this h2
  exact ⟨this.1, this.2.1, this.2.2.1, h2, this.2.2.2⟩
theorem UnbR.yes {bd : List UInt8} {z : Nat} {s r body : List UInt8} {gs : List Gp} (h : UnbR bd s gs r) (hbl : body.length = z) (hb : bunE bd body (gs.map fun g => g.1.1) = .ok s) : UnbOK bd z s (gs.map fun g => g.1) := by
  subst hbl
  unfold bunE at hb
  split at hb
  · split at hb
    · next hn =>
      obtain ⟨h1, h2⟩ := bunGo_ok hb
      rw [List.nil_append] at h2
      rw [List.length_map] at hn
      have e0 : (gs.map fun g => g.1.1).map (fun x => goodG body.length (x, cutL body x.1 x.2)) = (gs.map fun g : Gp => ((g.1.1, cutL body g.1.1.1 g.1.1.2) : Prt)).map (goodG body.length) := by simp
      rw [e0] at h2
      have hk : ∀ x ∈ gs.map (fun g : Gp => ((g.1.1, cutL body g.1.1.1 g.1.1.2) : Prt)), gOK (goodG body.length x) := by
        intro x hx
        obtain ⟨g, hg, rfl⟩ := List.mem_map.1 hx
        have hc := h1 _ (List.mem_map.2 ⟨g, hg, rfl⟩)
        have hc2 := ctOK_iff.1 hc
        exact ⟨hc, cut_len hc2.1 hc2.2.1 hc2.2.2.1, rfl⟩
      obtain ⟨k, m, e1, e2, e3⟩ := enc_split (z := body.length) gs _ r h.ok hk (by rw [← h.enc, h2])
      have hl := congrArg List.length e1
      have hl2 := congrArg List.length e2
      simp only [List.length_map, List.length_append] at hl hl2
      obtain rfl : m = [] := List.length_eq_zero_iff.1 (by omega)
      rw [List.append_nil] at e1
      have e4 : (gs.map fun g => g.1) = k := by
        rw [e2, List.map_map]
        exact List.map_id' k
      rw [e4]
      rw [e1] at h2 hk
      refine ⟨h2, hk, by omega, by omega, ?_⟩
      have hcut : ∀ x ∈ k, cutL body x.1.1 x.1.2 = x.2 := by
        intro x hx
        rw [← e1] at hx
        obtain ⟨g, hg, rfl⟩ := List.mem_map.1 hx
        rfl
      intro x hx y hy p c d hc hd
      obtain ⟨x0, x1, x2, x3, _⟩ := good_all (hk x hx)
      obtain ⟨y0, y1, y2, y3, _⟩ := good_all (hk y hy)
      have hp : 0 ≤ p := by unfold byteAt at hc; split at hc <;> first | omega | cases hc
      obtain ⟨q, rfl⟩ : ∃ q : Nat, p = q := ⟨p.toNat, by omega⟩
      have := (cut_byte x0 x3 x2 (by omega)).1 (hcut x hx) q c hc
      rw [(cut_byte y0 y3 y2 (by omega)).1 (hcut y hy) q d hd] at this
      injection this with this
      exact this.symm
    · cases hb
  · cases hb
theorem UnbR.no {bd : List UInt8} {z : Nat} {s r : List UInt8} {gs : List Gp} {l : List Prt} (h : UnbR bd s gs r) (hl : UnbOK bd z s l) (hr : Lib.hasPrefix r (bunHead bd) = false) (hbd : (isTok bd && decide (bd.length ≤ 30)) = true) : gs.map (fun g => g.1) = l ∧ bunE bd (layAll z l) (gs.map fun g => g.1.1) = .ok s := by
  obtain ⟨k, m, rfl, rfl, hrr, _⟩ := h.at_ hl
  cases m with
  | cons x m =>
    rw [hrr] at hr
    simp only [encG, List.map_cons, prtL, List.append_assoc] at hr
    exfalso
    unfold Lib.hasPrefix at hr
    rw [Bool.eq_false_iff] at hr
    exact hr (by rw [List.isPrefixOf_iff_prefix]; exact List.prefix_append _ _)
  | nil =>
    simp only [List.append_nil] at hl ⊢
    have hk := hl.ok
    have hin : ∀ x ∈ k, 0 ≤ x.1.1 ∧ x.1.1.toNat + x.2.length ≤ z := fun x hx => by have := good_all (hk x hx); omega
    have hbl := layAll_len k fun x hx => (hin x hx).2
    have hget := layAll_get k hin hl.agree
    refine ⟨by rw [List.map_map]; exact List.map_id' k, ?_⟩
    rw [List.map_map]
    unfold bunE
    rw [hbd, if_pos rfl, List.length_map, if_pos ⟨hl.one, hl.most⟩]
    have hct : ∀ x ∈ k.map ((fun g : Gp => g.1.1) ∘ goodG z), ctOK x.1 x.2 ((layAll z k).length : Int) = true := by
      intro x hx
      obtain ⟨y, hy, rfl⟩ := List.mem_map.1 hx
      rw [hbl]
      exact (hk y hy).1
    rw [bunGo_go hct, List.nil_append, hl.enc]
    congr 2
    rw [List.map_map]
    refine List.map_congr_left fun x hx => ?_
    obtain ⟨x0, x1, x2, x3, _⟩ := good_all (hk x hx)
    have := (cut_byte (body := layAll z k) x0 x3 (by omega) (by omega)).2 (hget x hx)
    simp only [Function.comp, goodG, hbl, this]
end Go.Larder
