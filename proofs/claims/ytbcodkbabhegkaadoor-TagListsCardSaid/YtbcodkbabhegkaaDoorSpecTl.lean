/- Lists of entity tags: one tag after the other, or split at commas first: the same. No program in sight. -/
import Derived.Test.YtbcodkbabhegkaaDoorSpecTag
import Derived.Test.YtbcodkbabhegkaaDoorSpecCut
namespace Go.Larder
set_option linter.unusedSimpArgs false
set_option linter.unusedVariables false
abbrev Tg := Bool × List UInt8

/-- One tag after the other. -/
def tlP : Nat → List UInt8 → List Tg → Option (List Tg)
  | 0, _, _ => none
  | n + 1, s, out => match s.dropWhile isB with
    | [] => some out
    | c :: r => if c = 44 then tlP n r out else match firstE (c :: r) with
      | none => none
      | some (wk, t, rest) => match rest.dropWhile isB with
        | [] => some (out ++ [(wk, t)])
        | c2 :: r2 => if c2 = 44 then tlP n r2 (out ++ [(wk, t)]) else none
/-- The parts between commas that are not quoted. -/
def splitQ : Bool → List UInt8 → List (List UInt8)
  | _, [] => [[]]
  | q, c :: l => if (c == 44 && !q) = true then [] :: splitQ q l else match splitQ (if (c == 34) = true then !q else q) l with
    | [] => [[c]]
    | p :: ps => (c :: p) :: ps
/-- The tags of parts. -/
def tagsOf : List (List UInt8) → List Tg → Option (List Tg)
  | [], out => some out
  | p :: ps, out => if (trim p).isEmpty then tagsOf ps out else match parseTR (trim p) with
    | none => none
    | some t => tagsOf ps (out ++ [t])

def preH (p : List UInt8) : List (List UInt8) → List (List UInt8)
  | [] => [p]
  | h :: ts => (p ++ h) :: ts
theorem splitQ_some (q : Bool) : ∀ s, ∃ p ps, splitQ q s = p :: ps
  | [] => ⟨_, _, rfl⟩
  | c :: l => by
    obtain ⟨p, ps, h⟩ := splitQ_some (if (c == 34) = true then !q else q) l
    unfold splitQ
    rw [h]
    split
    · exact ⟨_, _, rfl⟩
    · exact ⟨_, _, rfl⟩
theorem splitQ_step (q : Bool) (c : UInt8) (l : List UInt8) (h : (c == 44 && !q) = false) : splitQ q (c :: l) = preH [c] (splitQ (if (c == 34) = true then !q else q) l) := by
  obtain ⟨p, ps, hs⟩ := splitQ_some (if (c == 34) = true then !q else q) l
  conv => lhs; unfold splitQ
  rw [h, hs]
  rfl
theorem preH_preH (a b : List UInt8) (L : List (List UInt8)) : preH a (preH b L) = preH (a ++ b) L := by
  cases L <;> simp [preH]
theorem preH_nil {L : List (List UInt8)} (h : L ≠ []) : preH [] L = L := by
  cases L
  · exact absurd rfl h
  · rfl
theorem splitQ_ne (q : Bool) (s : List UInt8) : splitQ q s ≠ [] := by
  obtain ⟨p, ps, h⟩ := splitQ_some q s
  rw [h]; simp
/-- No quote, and no comma that counts. -/
theorem splitQ_app (q : Bool) (r : List UInt8) : ∀ (p : List UInt8), (∀ x ∈ p, x ≠ 34 ∧ (x ≠ 44 ∨ q = true)) → splitQ q (p ++ r) = preH p (splitQ q r)
  | [], _ => (preH_nil (splitQ_ne q r)).symm
  | c :: p, h => by
    obtain ⟨h1, h2⟩ := h c (by simp)
    have ih := splitQ_app q r p (fun x hx => h x (by simp [hx]))
    have hc : (c == 44 && !q) = false := by
      rcases h2 with h2 | h2
      · have : (c == 44) = false := by simpa using h2
        rw [this]; rfl
      · rw [h2]; simp
    have hq : (c == 34) = false := by simpa using h1
    rw [List.cons_append, splitQ_step _ _ _ hc, hq]
    simp only [Bool.false_eq_true, if_false]
    rw [ih, preH_preH]
    rfl
theorem splitQ_quote (q : Bool) (r : List UInt8) : splitQ q (34 :: r) = preH [34] (splitQ (!q) r) := by
  rw [splitQ_step _ _ _ (by decide +revert)]
  rfl
theorem splitQ_comma (r : List UInt8) : splitQ false (44 :: r) = [] :: splitQ false r := by
  conv => lhs; unfold splitQ
  rfl
theorem wk_free : ∀ x ∈ wkL, x ≠ 34 ∧ (x ≠ 44 ∨ false = true) := by decide
theorem blank_free {p : List UInt8} (h : p.all isB = true) : ∀ x ∈ p, x ≠ 34 ∧ (x ≠ 44 ∨ false = true) := by
  intro x hx
  have hb := List.all_eq_true.1 h x hx
  refine ⟨fun e => ?_, .inl fun e => ?_⟩
  · subst e; revert hb; decide
  · subst e; revert hb; decide
theorem splitQ_tag {t : List UInt8} (ht : t.all isTagB = true) (wk : Bool) (r : List UInt8) : splitQ false (tagL wk t ++ r) = preH (tagL wk t) (splitQ false r) := by
  have h1 : splitQ false (34 :: (t ++ [34]) ++ r) = preH (34 :: (t ++ [34])) (splitQ false r) := by
    rw [List.cons_append, splitQ_quote, Bool.not_false, List.append_assoc, splitQ_app true _ t (fun x hx => ⟨tagB_no34 ht x hx, .inr rfl⟩), List.singleton_append, splitQ_quote, Bool.not_true, preH_preH, preH_preH]
    rfl
  cases wk
  · exact h1
  · have : tagL true t ++ r = wkL ++ (34 :: (t ++ [34]) ++ r) := by simp [tagL]
    rw [this, splitQ_app false _ wkL wk_free, h1, preH_preH]
    rfl
/-- The first part, and what is behind it. -/
theorem splitQ_head : ∀ (q : Bool) (s : List UInt8), ∃ p ps, splitQ q s = p :: ps ∧ ((ps = [] ∧ s = p) ∨ ∃ r q', s = p ++ 44 :: r ∧ ps = splitQ q' r)
  | q, [] => ⟨[], [], rfl, .inl ⟨rfl, rfl⟩⟩
  | q, c :: l => by
    cases h : (c == 44 && !q)
    · obtain ⟨p, ps, h1, h2⟩ := splitQ_head (if (c == 34) = true then !q else q) l
      rw [splitQ_step _ _ _ h, h1]
      refine ⟨c :: p, ps, rfl, ?_⟩
      rcases h2 with ⟨rfl, rfl⟩ | ⟨r, q', rfl, rfl⟩
      · exact .inl ⟨rfl, rfl⟩
      · exact .inr ⟨r, q', rfl, rfl⟩
    · rw [Bool.and_eq_true] at h
      obtain ⟨h1, h2⟩ := h
      have hc : c = 44 := by simpa using h1
      have hq : q = false := by simpa using h2
      subst hc hq
      exact ⟨[], splitQ false l, splitQ_comma l, .inr ⟨l, false, rfl, rfl⟩⟩

theorem drop_parts (s : List UInt8) : ∃ b, s = b ++ s.dropWhile isB ∧ b.all isB = true :=
  ⟨s.takeWhile isB, (List.takeWhile_append_dropWhile).symm, by
    exact List.all_takeWhile⟩
theorem drop_head {s : List UInt8} {c : UInt8} {r : List UInt8} (h : s.dropWhile isB = c :: r) : isB c = false := by
  induction s with
  | nil => simp at h
  | cons a s ih =>
    rw [List.dropWhile_cons] at h
    split at h
    · exact ih h
    · next ha => injection h with h1 _; rw [← h1]; simpa using ha
theorem trim_pre : ∀ {b : List UInt8} (m : List UInt8), b.all isB = true → trim (b ++ m) = trim m
  | [], _, _ => rfl
  | a :: b, m, h => by
    rw [List.all_cons, Bool.and_eq_true] at h
    rw [List.cons_append, trim_cons _ _ h.1]
    exact trim_pre m h.2
theorem trim_post (m : List UInt8) : ∀ (n : Nat) {b : List UInt8}, b.length = n → b.all isB = true → trim (m ++ b) = trim m
  | 0, b, hn, _ => by rw [List.length_eq_zero_iff.1 hn, List.append_nil]
  | n + 1, b, hn, h => by
    rcases nil_or_snoc b with rfl | ⟨b', x, rfl⟩
    · rw [List.append_nil]
    · rw [List.all_append, Bool.and_eq_true] at h
      have hx : isB x = true := by simpa using h.2
      rw [← List.append_assoc, trim_snoc _ _ hx]
      exact trim_post m n (by simpa using hn) h.1
theorem trim_blank {b : List UInt8} (h : b.all isB = true) : trim b = [] := by
  have := trim_pre [] h
  rw [List.append_nil] at this
  rw [this]; rfl
theorem trimR_keep (l : List UInt8) (c : UInt8) (hc : isB c = false) : ∀ (n : Nat) (y : List UInt8), y.length = n → ∃ z, trimR (l ++ c :: y) = l ++ c :: z
  | 0, y, hn => by
    rw [List.length_eq_zero_iff.1 hn]
    exact ⟨[], by rw [trimR_snoc, hc]; rfl⟩
  | n + 1, y, hn => by
    rcases nil_or_snoc y with rfl | ⟨y', x, rfl⟩
    · exact ⟨[], by rw [trimR_snoc, hc]; rfl⟩
    · have e : l ++ c :: (y' ++ [x]) = (l ++ c :: y') ++ [x] := by simp
      rw [e, trimR_snoc]
      split
      · exact trimR_keep l c hc n y' (by simpa using hn)
      · exact ⟨y' ++ [x], by simp⟩
theorem trim_keep (a : UInt8) (l : List UInt8) (c : UInt8) (ha : isB a = false) (hc : isB c = false) (y : List UInt8) : ∃ z, trim (a :: l ++ c :: y) = a :: l ++ c :: z := by
  unfold trim
  rw [show a :: l ++ c :: y = a :: (l ++ c :: y) from rfl, List.dropWhile_cons, ha]
  simp only [Bool.false_eq_true, if_false]
  exact trimR_keep (a :: l) c hc _ y rfl
theorem trim_keep1 (a : UInt8) (ha : isB a = false) (y : List UInt8) : ∃ z, trim (a :: y) = a :: z := by
  unfold trim
  rw [List.dropWhile_cons, ha]
  simp only [Bool.false_eq_true, if_false]
  exact trimR_keep [] a ha _ y rfl
theorem tag_ends (wk : Bool) (t : List UInt8) : (∃ a l, tagL wk t = a :: l ∧ isB a = false) ∧ trim (tagL wk t) = tagL wk t := by
  constructor
  · cases wk
    · exact ⟨34, t ++ [34], rfl, rfl⟩
    · exact ⟨87, 47 :: 34 :: (t ++ [34]), rfl, rfl⟩
  · apply trim_done
    · intro b hb
      cases wk
      · cases hb; rfl
      · cases hb; rfl
    · intro b hb
      have : (tagL wk t).getLast? = some 34 := by
        rw [show tagL wk t = ((if wk then wkL else []) ++ 34 :: t) ++ [34] from by simp [tagL], List.getLast?_append]
        rfl
      rw [this] at hb
      cases hb
      rfl
/-- A text whose trimmed head is a tag begins with that tag. -/
theorem trim_sub (s : List UInt8) (c : UInt8) (r : List UInt8) (h : s = c :: r) (hc : isB c = false) : ∃ y, s = trim s ++ y := by
  subst h
  have : trim (c :: r) = trimR (c :: r) := by
    unfold trim
    rw [List.dropWhile_cons, hc]; rfl
  rw [this]
  have key : ∀ (n : Nat) (l : List UInt8), l.length = n → ∃ y, l = trimR l ++ y := by
    intro n
    induction n with
    | zero => intro l hl; rw [List.length_eq_zero_iff.1 hl]; exact ⟨[], rfl⟩
    | succ n ih =>
      intro l hl
      rcases nil_or_snoc l with rfl | ⟨m, x, rfl⟩
      · exact ⟨[], rfl⟩
      · rw [trimR_snoc]
        split
        · obtain ⟨y, hy⟩ := ih m (by simpa using hl)
          exact ⟨y ++ [x], by rw [← List.append_assoc, ← hy]⟩
        · exact ⟨[], by simp⟩
  exact key _ _ rfl
theorem firstE_none_parse {s y : List UInt8} (h : firstE (s ++ y) = none) : parseTR s = none := by
  rw [← parseT_eq]
  unfold parseT
  cases hf : firstE s with
  | none => rfl
  | some x =>
    obtain ⟨wk, t, r⟩ := x
    obtain ⟨h1, h2⟩ := firstE_some hf
    exfalso
    rw [h1, List.append_assoc, firstE_tag _ _ _ h2] at h
    cases h

theorem tl_eq : ∀ (n : Nat) (s : List UInt8) (out : List Tg), s.length < n → tlP n s out = tagsOf (splitQ false s) out
  | 0, _, _, h => by omega
  | n + 1, s, out, hn => by
    obtain ⟨b, hs, hb⟩ := drop_parts s
    have hl : (s.dropWhile isB).length ≤ s.length := (List.dropWhile_sublist isB).length_le
    unfold tlP
    cases hd : s.dropWhile isB with
    | nil =>
      rw [hd, List.append_nil] at hs
      subst hs
      have := splitQ_app false [] s (blank_free hb)
      rw [List.append_nil] at this
      rw [this]
      show some out = tagsOf [s ++ []] out
      rw [List.append_nil]
      unfold tagsOf
      rw [trim_blank hb]
      rfl
    | cons c r =>
      rw [hd] at hs hl
      have hcB := drop_head hd
      simp only
      have hsp : splitQ false s = preH b (splitQ false (c :: r)) := by
        conv => lhs; rw [hs]
        exact splitQ_app false _ b (blank_free hb)
      by_cases hc : c = 44
      · subst hc
        rw [if_pos rfl, hsp, splitQ_comma]
        show _ = tagsOf ((b ++ []) :: splitQ false r) out
        rw [List.append_nil, tl_eq n r out (by simp at hl; omega)]
        conv => rhs; unfold tagsOf
        rw [trim_blank hb]
        rfl
      · rw [if_neg hc]
        cases hf : firstE (c :: r) with
        | none =>
          simp only
          obtain ⟨p, ps, h1, h2⟩ := splitQ_head false (c :: r)
          rw [hsp, h1]
          show none = tagsOf ((b ++ p) :: ps) out
          have hp : ∃ p', p = c :: p' := by
            rcases h2 with ⟨_, h2⟩ | ⟨r', q', h2, _⟩
            · exact ⟨r, h2.symm⟩
            · cases p with
              | nil => injection h2 with h2 _; exact absurd h2 hc
              | cons x p' => injection h2 with h2 _; exact ⟨p', by rw [h2]⟩
          obtain ⟨p', rfl⟩ := hp
          have hy : ∃ y, c :: r = (c :: p') ++ y := by
            rcases h2 with ⟨_, h2⟩ | ⟨r', q', h2, _⟩
            · exact ⟨[], by rw [List.append_nil]; exact h2⟩
            · exact ⟨_, h2⟩
          obtain ⟨y, hy⟩ := hy
          obtain ⟨y2, hy2⟩ := trim_sub (c :: p') c p' rfl hcB
          have hn2 : parseTR (trim (c :: p')) = none := firstE_none_parse (y := y2 ++ y) (by rw [← List.append_assoc, ← hy2, ← hy]; exact hf)
          obtain ⟨z, hz⟩ := trim_keep1 c hcB p'
          unfold tagsOf
          rw [trim_pre _ hb, hn2, hz]
          rfl
        | some x =>
          obtain ⟨wk, t, rest⟩ := x
          simp only
          obtain ⟨h1, h2⟩ := firstE_some hf
          have ht := (tagOK_parts h2).2
          have hsp2 : splitQ false s = preH (b ++ tagL wk t) (splitQ false rest) := by
            rw [hsp, h1, splitQ_tag ht, preH_preH]
          have hpar : parseTR (tagL wk t) = some (wk, t) := by
            rw [← parseT_eq]
            unfold parseT
            have := firstE_tag wk t [] h2
            rw [List.append_nil] at this
            rw [this]; rfl
          obtain ⟨⟨a0, l0, ha0, ha1⟩, htrim⟩ := tag_ends wk t
          have hne : (tagL wk t).isEmpty = false := by rw [ha0]; rfl
          have hrl : rest.length ≤ r.length := by
            have := congrArg List.length h1
            rw [ha0] at this
            simp at this
            omega
          obtain ⟨b2, hr, hb2⟩ := drop_parts rest
          have hl2 : (rest.dropWhile isB).length ≤ rest.length := (List.dropWhile_sublist isB).length_le
          cases hd2 : rest.dropWhile isB with
          | nil =>
            rw [hd2, List.append_nil] at hr
            subst hr
            have hq := splitQ_app false [] rest (blank_free hb2)
            rw [List.append_nil] at hq
            rw [hsp2, hq]
            show _ = tagsOf [(b ++ tagL wk t) ++ (rest ++ [])] out
            rw [List.append_nil]
            unfold tagsOf
            rw [List.append_assoc, trim_pre _ hb, trim_post _ _ rfl hb2, htrim, hne, hpar]
            rfl
          | cons c2 r2 =>
            rw [hd2] at hr hl2
            have hc2B := drop_head hd2
            simp only
            have hq : splitQ false rest = preH b2 (splitQ false (c2 :: r2)) := by
              conv => lhs; rw [hr]
              exact splitQ_app false _ b2 (blank_free hb2)
            by_cases hc2 : c2 = 44
            · subst hc2
              rw [if_pos rfl, hsp2, hq, splitQ_comma]
              show _ = tagsOf ((b ++ tagL wk t ++ (b2 ++ [])) :: splitQ false r2) out
              rw [List.append_nil, tl_eq n r2 _ (by simp at hl hl2; omega)]
              conv => rhs; unfold tagsOf
              rw [List.append_assoc, trim_pre _ hb, trim_post _ _ rfl hb2, htrim, hne, hpar]
              rfl
            · rw [if_neg hc2]
              obtain ⟨p, ps, h3, h4⟩ := splitQ_head false (c2 :: r2)
              have hp : ∃ p', p = c2 :: p' := by
                rcases h4 with ⟨_, h4⟩ | ⟨r', q', h4, _⟩
                · exact ⟨r2, h4.symm⟩
                · cases p with
                  | nil => injection h4 with h4 _; exact absurd h4 hc2
                  | cons x p' => injection h4 with h4 _; exact ⟨p', by rw [h4]⟩
              obtain ⟨p', rfl⟩ := hp
              rw [hsp2, hq, h3]
              show none = tagsOf ((b ++ tagL wk t ++ (b2 ++ c2 :: p')) :: ps) out
              obtain ⟨z, hz⟩ := trim_keep a0 (l0 ++ b2) c2 ha1 hc2B p'
              have e : tagL wk t ++ (b2 ++ c2 :: p') = a0 :: (l0 ++ b2) ++ c2 :: p' := by rw [ha0]; simp
              have e2 : a0 :: (l0 ++ b2) ++ c2 :: z = tagL wk t ++ (b2 ++ c2 :: z) := by rw [ha0]; simp
              have hnone : parseTR (tagL wk t ++ (b2 ++ c2 :: z)) = none := by
                rw [← parseT_eq]
                unfold parseT
                rw [firstE_tag _ _ _ h2]
                cases b2 <;> rfl
              unfold tagsOf
              rw [List.append_assoc, trim_pre _ hb, e, hz, e2, hnone]
              rw [ha0]
              rfl
end Go.Larder
