/- Digests of texts: the plain law. No program in sight. -/
import Derived.Test.YtbchkaoocobpfaaDoorSpecLog
namespace Go.Larder
set_option linter.unusedSimpArgs false
set_option linter.unusedVariables false
abbrev M32 : Nat := 4294967296
/-- turned to the right -/
def rotr (x k : Nat) : Nat := x / 2 ^ k ||| x * 2 ^ (32 - k) % 4294967296
theorem rotr_lt {x : Nat} (k : Nat) (h : x < 4294967296) : rotr x k < 4294967296 :=
  Nat.or_lt_two_pow (n := 32) (Nat.lt_of_le_of_lt (Nat.div_le_self _ _) h) (Nat.mod_lt _ (by omega))
theorem xor_lt32 {x y : Nat} (h : x < 4294967296) (h2 : y < 4294967296) : x ^^^ y < 4294967296 := Nat.xor_lt_two_pow (n := 32) h h2
structure OkV (n : Nat) (v : List Nat) : Prop where
  len : v.length = n
  lt : ∀ x ∈ v, x < 4294967296
theorem OkV.get {n : Nat} {v : List Nat} (h : OkV n v) (j : Nat) : v.getD j 0 < 4294967296 := by
  rw [List.getD_eq_getElem?_getD]
  cases hx : v[j]? with
  | none => simp
  | some x => exact h.lt x (List.mem_of_getElem? hx)
theorem OkV.set {n : Nat} {v : List Nat} (h : OkV n v) (j : Nat) {x : Nat} (hx : x < 4294967296) : OkV n (v.set j x) :=
  ⟨by rw [List.length_set, h.len], fun y hy => by
    rcases List.mem_or_eq_of_mem_set hy with hy | rfl
    · exact h.lt y hy
    · exact hx⟩
/-- the numbers, step by step -/
def st1 (v : List Nat) (a b x : Nat) : List Nat := v.set a ((v.getD a 0 + (v.getD b 0 + x) % 4294967296) % 4294967296)
def st2 (v : List Nat) (d a r : Nat) : List Nat := v.set d (rotr (v.getD d 0 ^^^ v.getD a 0) r)
def st3 (v : List Nat) (c d : Nat) : List Nat := v.set c ((v.getD c 0 + v.getD d 0) % 4294967296)
theorem OkV.st1 {n : Nat} {v : List Nat} (h : OkV n v) (a b x : Nat) : OkV n (st1 v a b x) := h.set _ (Nat.mod_lt _ (by omega))
theorem OkV.st2 {n : Nat} {v : List Nat} (h : OkV n v) (d a r : Nat) : OkV n (st2 v d a r) := h.set _ (rotr_lt _ (xor_lt32 (h.get _) (h.get _)))
theorem OkV.st3 {n : Nat} {v : List Nat} (h : OkV n v) (c d : Nat) : OkV n (st3 v c d) := h.set _ (Nat.mod_lt _ (by omega))
def half (v : List Nat) (a b c d x r1 r2 : Nat) : List Nat := st2 (st3 (st2 (st1 v a b x) d a r1) c d) b c r2
theorem OkV.half {n : Nat} {v : List Nat} (h : OkV n v) (a b c d x r1 r2 : Nat) : OkV n (half v a b c d x r1 r2) := ((((h.st1 a b x).st2 d a r1).st3 c d).st2 b c r2)
def mixV (v : List Nat) (a b c d x y : Nat) : List Nat := Go.Larder.half (Go.Larder.half v a b c d x 16 12) a b c d y 8 7
theorem OkV.mixV {n : Nat} {v : List Nat} (h : OkV n v) (a b c d x y : Nat) : OkV n (mixV v a b c d x y) := (h.half a b c d x 16 12).half a b c d y 8 7
def ivN : List Nat := [1779033703, 3144134277, 1013904242, 2773480762, 1359893119, 2600822924, 528734635, 1541459225]
theorem ivN_ok : OkV 8 ivN := ⟨rfl, by decide⟩
def sigN : List (List Nat) := [[0, 1, 2, 3, 4, 5, 6, 7, 8, 9, 10, 11, 12, 13, 14, 15], [14, 10, 4, 8, 9, 15, 13, 6, 1, 12, 0, 2, 11, 7, 5, 3], [11, 8, 12, 0, 5, 2, 15, 13, 10, 14, 3, 6, 7, 1, 9, 4], [7, 9, 3, 1, 13, 12, 11, 14, 2, 6, 5, 10, 4, 0, 15, 8], [9, 0, 5, 7, 2, 4, 10, 15, 14, 1, 11, 12, 6, 8, 3, 13], [2, 12, 6, 10, 0, 11, 8, 3, 4, 13, 7, 5, 15, 14, 1, 9], [12, 5, 1, 15, 14, 13, 4, 10, 0, 7, 6, 3, 9, 2, 8, 11], [13, 11, 7, 14, 12, 1, 3, 9, 5, 0, 15, 4, 8, 6, 2, 10], [6, 15, 14, 9, 11, 3, 0, 8, 12, 2, 13, 7, 1, 4, 10, 5], [10, 2, 8, 4, 7, 6, 1, 5, 15, 11, 9, 14, 3, 12, 13, 0]]
theorem sig_ok : ∀ l ∈ sigN, l.length = 16 ∧ ∀ x ∈ l, x < 16 := by decide
def plA (i : Nat) : Nat := i % 4
def plB (i : Nat) : Nat := 4 + (i + i / 4) % 4
def plC (i : Nat) : Nat := 8 + (i + 2 * (i / 4)) % 4
def plD (i : Nat) : Nat := 12 + (i + 3 * (i / 4)) % 4
/-- the words of a block -/
def byteN (b : List UInt8) (j : Nat) : Nat := (b.getD j 0).toNat
theorem byteN_lt (b : List UInt8) (j : Nat) : byteN b j < 256 := (b.getD j 0).toNat_lt
def wd (b : List UInt8) (i : Nat) : Nat := byteN b (4 * i) + byteN b (4 * i + 1) * 256 + byteN b (4 * i + 2) * 65536 + byteN b (4 * i + 3) * 16777216
theorem wd_lt (b : List UInt8) (i : Nat) : wd b i < 4294967296 := by
  have h0 := byteN_lt b (4 * i); have h1 := byteN_lt b (4 * i + 1); have h2 := byteN_lt b (4 * i + 2); have h3 := byteN_lt b (4 * i + 3)
  unfold wd; omega
def part (b : List UInt8) (i : Nat) : Nat → Nat
  | 0 => 0
  | k + 1 => part b i k ||| (byteN b (4 * i + k) * 2 ^ (8 * k)) % 4294967296
theorem or_step {x y k : Nat} (h : x < 2 ^ k) : x ||| y * 2 ^ k = x + y * 2 ^ k := by
  have := Nat.shiftLeft_add_eq_or_of_lt h y
  rw [Nat.shiftLeft_eq] at this
  rw [Nat.or_comm, ← this, Nat.add_comm]
theorem or_8 {x y : Nat} (h : x < 256) : x ||| y * 256 = x + y * 256 := or_step (k := 8) h
theorem or_16 {x y : Nat} (h : x < 65536) : x ||| y * 65536 = x + y * 65536 := or_step (k := 16) h
theorem or_24 {x y : Nat} (h : x < 16777216) : x ||| y * 16777216 = x + y * 16777216 := or_step (k := 24) h
theorem part_1 (b : List UInt8) (i : Nat) : part b i 1 = byteN b (4 * i) := by
  have h0 := byteN_lt b (4 * i)
  show (0 ||| (byteN b (4 * i + 0) * 2 ^ 0) % 4294967296) = _
  rw [Nat.zero_or, Nat.pow_zero, Nat.mul_one, Nat.add_zero, Nat.mod_eq_of_lt (by omega)]
theorem part_2 (b : List UInt8) (i : Nat) : part b i 2 = byteN b (4 * i) + byteN b (4 * i + 1) * 256 := by
  have h0 := byteN_lt b (4 * i); have h1 := byteN_lt b (4 * i + 1)
  show (part b i 1 ||| (byteN b (4 * i + 1) * 256) % 4294967296) = _
  rw [part_1, Nat.mod_eq_of_lt (by omega), or_8 (by omega)]
theorem part_3 (b : List UInt8) (i : Nat) : part b i 3 = byteN b (4 * i) + byteN b (4 * i + 1) * 256 + byteN b (4 * i + 2) * 65536 := by
  have h0 := byteN_lt b (4 * i); have h1 := byteN_lt b (4 * i + 1); have h2 := byteN_lt b (4 * i + 2)
  show (part b i 2 ||| (byteN b (4 * i + 2) * 65536) % 4294967296) = _
  rw [part_2, Nat.mod_eq_of_lt (by omega), or_16 (by omega)]
theorem part_4 (b : List UInt8) (i : Nat) : part b i 4 = wd b i := by
  have h0 := byteN_lt b (4 * i); have h1 := byteN_lt b (4 * i + 1); have h2 := byteN_lt b (4 * i + 2); have h3 := byteN_lt b (4 * i + 3)
  show (part b i 3 ||| (byteN b (4 * i + 3) * 16777216) % 4294967296) = _
  rw [part_3, Nat.mod_eq_of_lt (by omega), or_24 (by omega)]
  rfl
theorem part_lt (b : List UInt8) (i : Nat) : ∀ k, part b i k < 4294967296
  | 0 => by simp [part]
  | k + 1 => Nat.or_lt_two_pow (n := 32) (part_lt b i k) (Nat.mod_lt _ (by omega))
def words (b : List UInt8) : List Nat := (List.range 16).map (wd b)
theorem words_get (b : List UInt8) {j : Nat} (h : j < 16) : (words b).getD j 0 = wd b j := by
  unfold words
  rw [List.getD_eq_getElem?_getD, List.getElem?_map, List.getElem?_range h, Option.map_some, Option.getD_some]
def mixAt (b : List UInt8) (l : List Nat) (i : Nat) (v : List Nat) : List Nat := mixV v (plA i) (plB i) (plC i) (plD i) (wd b (l.getD (2 * i) 0)) (wd b (l.getD (2 * i + 1) 0))
def lineGo (b : List UInt8) (l : List Nat) : Nat → Nat → List Nat → List Nat
  | 0, _, v => v
  | n + 1, i, v => lineGo b l n (i + 1) (mixAt b l i v)
def allGo (b : List UInt8) : List (List Nat) → List Nat → List Nat
  | [], v => v
  | l :: r, v => allGo b r (lineGo b l 8 0 v)
theorem OkV.mixAt {v : List Nat} {n : Nat} (h : OkV n v) (b : List UInt8) (l : List Nat) (i : Nat) : OkV n (mixAt b l i v) := h.mixV _ _ _ _ _ _
theorem OkV.lineGo {n : Nat} (b : List UInt8) (l : List Nat) : ∀ (k i : Nat) {v : List Nat}, OkV n v → OkV n (lineGo b l k i v)
  | 0, _, _, h => h
  | k + 1, i, _, h => OkV.lineGo b l k (i + 1) (h.mixAt b l i)
theorem OkV.allGo {n : Nat} (b : List UInt8) : ∀ (l : List (List Nat)) {v : List Nat}, OkV n v → OkV n (allGo b l v)
  | [], _, h => h
  | l :: r, _, h => OkV.allGo b r (h.lineGo b l 8 0)
def startV (h : List Nat) (many : Nat) (last : Bool) : List Nat :=
  let v0 := h ++ ivN
  let v1 := v0.set 12 (v0.getD 12 0 ^^^ many % 4294967296)
  let v2 := v1.set 13 (v1.getD 13 0 ^^^ many / 4294967296 % 4294967296)
  if last then v2.set 14 (4294967295 - v2.getD 14 0) else v2
theorem OkV.app {n m : Nat} {v u : List Nat} (h : OkV n v) (h2 : OkV m u) : OkV (n + m) (v ++ u) :=
  ⟨by rw [List.length_append, h.len, h2.len], fun x hx => by
    rcases List.mem_append.1 hx with hx | hx
    · exact h.lt x hx
    · exact h2.lt x hx⟩
theorem OkV.startV {h : List Nat} (ho : OkV 8 h) (many : Nat) (last : Bool) : OkV 16 (startV h many last) := by
  have h0 : OkV 16 (h ++ ivN) := ho.app ivN_ok
  have h1 := h0.set 12 (x := (h ++ ivN).getD 12 0 ^^^ many % 4294967296) (xor_lt32 (h0.get _) (Nat.mod_lt _ (by omega)))
  have h2 := h1.set 13 (x := ((h ++ ivN).set 12 ((h ++ ivN).getD 12 0 ^^^ many % 4294967296)).getD 13 0 ^^^ many / 4294967296 % 4294967296) (xor_lt32 (h1.get _) (Nat.mod_lt _ (by omega)))
  unfold Go.Larder.startV
  cases last
  · exact h2
  · exact h2.set 14 (by omega)
def endGo (v : List Nat) : Nat → Nat → List Nat → List Nat
  | 0, _, h => h
  | n + 1, i, h => endGo v n (i + 1) (h.set i (h.getD i 0 ^^^ (v.getD i 0 ^^^ v.getD (i + 8) 0)))
theorem OkV.endGo {n m : Nat} {v : List Nat} (hv : OkV m v) : ∀ (k i : Nat) {h : List Nat}, OkV n h → OkV n (endGo v k i h)
  | 0, _, _, h => h
  | k + 1, i, _, h => OkV.endGo hv k (i + 1) (h.set i (xor_lt32 (h.get _) (xor_lt32 (hv.get _) (hv.get _))))
def blockN (h : List Nat) (b : List UInt8) (many : Nat) (last : Bool) : List Nat := endGo (allGo b sigN (startV h many last)) 8 0 h
theorem blockN_of {h : List Nat} {b : List UInt8} {many : Nat} {last : Bool} {v : List Nat} (hv : allGo b sigN (startV h many last) = v) : blockN h b many last = endGo v 8 0 h := by subst hv; rfl
theorem OkV.blockN {h : List Nat} (ho : OkV 8 h) (b : List UInt8) (many : Nat) (last : Bool) : OkV 8 (blockN h b many last) := OkV.endGo ((ho.startV many last).allGo b sigN) 8 0 ho
def padB (b : List UInt8) : List UInt8 := b ++ List.replicate (64 - b.length) 0
def digGo (h : List Nat) (at_ : Nat) (r : List UInt8) : List Nat :=
  if hr : r.length ≤ 64 then blockN h (padB r) (at_ + r.length) true else digGo (blockN h (r.take 64) (at_ + 64) false) (at_ + 64) (r.drop 64)
termination_by r.length
decreasing_by simp only [List.length_drop]; omega
theorem digGo_last {h : List Nat} {k : Nat} {r : List UInt8} (hr : r.length ≤ 64) : digGo h k r = blockN h (padB r) (k + r.length) true := by rw [digGo, dif_pos hr]
theorem digGo_more {h : List Nat} {k : Nat} {r : List UInt8} (hr : ¬ r.length ≤ 64) : digGo h k r = digGo (blockN h (r.take 64) (k + 64) false) (k + 64) (r.drop 64) := by rw [digGo, dif_neg hr]
def startH : List Nat := ivN.set 0 (ivN.getD 0 0 ^^^ 16842784)
theorem startH_ok : OkV 8 startH := ivN_ok.set 0 (by decide)
def digN (s : List UInt8) : List Nat := digGo startH 0 s
def digL (s : List UInt8) : List UInt8 := (digN s).flatMap le4
/-- what a hash that has taken 'all' in keeps -/
structure DgAt (all : List UInt8) (h : List Nat) (many : Nat) (rest : List UInt8) : Prop where
  ok : OkV 8 h
  sum : many + rest.length = all.length
  eq : ∀ t, digGo startH 0 (all ++ t) = digGo h many (rest ++ t)
theorem DgAt.start : DgAt [] startH 0 [] := ⟨startH_ok, rfl, fun t => rfl⟩
theorem DgAt.more {all rest s : List UInt8} {h : List Nat} {many : Nat} (hd : DgAt all h many rest) : DgAt (all ++ s) h many (rest ++ s) :=
  ⟨hd.ok, by have := hd.sum; simp only [List.length_append]; omega, fun t => by rw [List.append_assoc, List.append_assoc]; exact hd.eq (s ++ t)⟩
theorem DgAt.step {all rest : List UInt8} {h : List Nat} {many : Nat} (hd : DgAt all h many rest) (hr : 64 < rest.length) : DgAt all (blockN h (rest.take 64) (many + 64) false) (many + 64) (rest.drop 64) :=
  ⟨hd.ok.blockN _ _ _, by have := hd.sum; simp only [List.length_drop]; omega, fun t => by
    rw [hd.eq t, digGo_more (by rw [List.length_append]; omega), List.take_append_of_le_length (by omega), List.drop_append_of_le_length (by omega)]⟩
theorem DgAt.fin {all rest : List UInt8} {h : List Nat} {many : Nat} (hd : DgAt all h many rest) (hr : rest.length ≤ 64) : digN all = blockN h (padB rest) (many + rest.length) true := by
  have := hd.eq []
  rw [List.append_nil, List.append_nil] at this
  unfold digN
  rw [this, digGo_last hr]
theorem digN_ok (s : List UInt8) : OkV 8 (digN s) := by
  unfold digN
  suffices ∀ (n : Nat) (h : List Nat) (k : Nat) (r : List UInt8), r.length ≤ n → OkV 8 h → OkV 8 (digGo h k r) from this s.length startH 0 s (Nat.le_refl _) startH_ok
  intro n
  induction n with
  | zero => intro h k r hr ho; rw [digGo_last (by omega)]; exact ho.blockN _ _ _
  | succ n ih =>
    intro h k r hr ho
    by_cases h64 : r.length ≤ 64
    · rw [digGo_last h64]; exact ho.blockN _ _ _
    · rw [digGo_more h64]
      exact ih _ _ _ (by simp only [List.length_drop]; omega) (ho.blockN _ _ _)
theorem digL_len (s : List UInt8) : (digL s).length = 32 := by
  have h := (digN_ok s).len
  unfold digL
  rw [List.length_flatMap]
  have : ∀ l : List Nat, (l.map fun a => (le4 a).length).sum = 4 * l.length := by
    intro l
    induction l with
    | nil => rfl
    | cons x l ih => rw [List.map_cons, List.sum_cons, ih, List.length_cons]; simp [le4]; omega
  rw [this, h]
end Go.Larder
