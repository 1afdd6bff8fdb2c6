/- Walks: the reference's digests: its numbers, its copies. -/
import Derived.Test.YtbchkaoocobpfaaDoorWDgO
import Derived.Test.YtbchkaoocobpfaaDoorWDgR
import Derived.Test.YtbchkaoocobpfaaDoorWDgW
import Derived.Test.YtbchkaoocobpfaaDoorWRep
import Derived.Test.YtbchkaoocobpfaaDoorSpecs
import Derived.Lib.LaidTab
import Derived.Stop.LaidErr
import Derived.MakeChecks
namespace Go.Proofs.YtbchkaoocobpfaaDoor
open Go.RowKit Go.Larder
set_option linter.unusedVariables false
set_option linter.unusedSimpArgs false
def encU : ElemT Nat := ⟨fun n => [Value.int .u32 ((n : Nat) : Int)], 1, fun _ => rfl, fun _ u hu => by simp at hu; subst hu; rfl, by omega⟩
theorem flat_U (l : List Nat) : l.flatMap encU.enc = l.map U := by
  induction l with
  | nil => rfl
  | cons x l ih => rw [List.flatMap_cons, ih]; rfl
def primesN : List Nat := [2, 3, 5, 7, 11, 13, 17, 19]
theorem roots {k p : Nat} (h : primesN[k]? = some p) : ivN[k]? = some (rootN p) ∧ p < 100 := by
  match k, h with
  | 0, h => injection h with h; subst h; exact ⟨by rw [root_2]; rfl, by decide⟩
  | 1, h => injection h with h; subst h; exact ⟨by rw [root_3]; rfl, by decide⟩
  | 2, h => injection h with h; subst h; exact ⟨by rw [root_5]; rfl, by decide⟩
  | 3, h => injection h with h; subst h; exact ⟨by rw [root_7]; rfl, by decide⟩
  | 4, h => injection h with h; subst h; exact ⟨by rw [root_11]; rfl, by decide⟩
  | 5, h => injection h with h; subst h; exact ⟨by rw [root_13]; rfl, by decide⟩
  | 6, h => injection h with h; subst h; exact ⟨by rw [root_17]; rfl, by decide⟩
  | 7, h => injection h with h; subst h; exact ⟨by rw [root_19]; rfl, by decide⟩
  | k + 8, h => cases h
abbrev sgT : List UInt8 := (([48, 49, 50, 51, 52, 53, 54, 55, 56, 57, 97, 98, 99, 100, 101, 102, 32, 101, 97, 52, 56, 57, 102, 100, 54, 49, 99, 48, 50, 98, 55, 53, 51, 32, 98, 56, 99, 48, 53, 50, 102, 100].append [97, 101, 51, 54, 55, 49, 57, 52, 32, 55, 57, 51, 49, 100, 99, 98, 101, 50, 54, 53, 97, 52, 48, 102, 56, 32, 57, 48, 53, 55, 50, 52, 97, 102, 101, 49, 98, 99, 54, 56, 51, 100]).append ([32, 50, 99, 54, 97, 48, 98, 56, 51, 52, 100, 55, 53, 102, 101, 49, 57, 32, 99, 53, 49, 102, 101, 100, 52, 97, 48, 55, 54, 51, 57, 50, 56, 98, 32, 100, 98, 55, 101, 99, 49, 51].append [57, 53, 48, 102, 52, 56, 54, 50, 97, 32, 54, 102, 101, 57, 98, 51, 48, 56, 99, 50, 100, 55, 49, 52, 97, 53, 32, 97, 50, 56, 52, 55, 54, 49, 53, 102, 98, 57, 101, 51, 99, 100, 48]))
def sgL : List (List UInt8) := sigN.map fun l => l.map (fun x => ([48, 49, 50, 51, 52, 53, 54, 55, 56, 57, 97, 98, 99, 100, 101, 102] : List UInt8).getD x 0)
/-- the library's table of the ASCII spaces -/
def AS (w : World) : Prop := Lib.TabIs Tryd.prog w "strings.asciiSpace" .u8 Lib.asciiSpaceTab
theorem AS.keep {w w' : World} (h : AS w) (hb : Below w.heap.size w w') : AS w' := by
  unfold AS Lib.TabIs World.var? at h ⊢
  cases hg : (Tryd.prog).globalNamed "strings.asciiSpace" with
  | none => rw [hg] at h; cases h
  | some g =>
    rw [hg] at h
    simp only [Option.bind_some] at h ⊢
    have hlt : g < w.heap.size := by
      rcases Nat.lt_or_ge g w.heap.size with h' | h'
      · exact h'
      · rw [Array.getElem?_eq_none h'] at h; cases h
    rw [hb.block g hlt]
    exact h
theorem blk_eq (s : List UInt8) (a : Nat) (ha : a ≤ s.length) : (s.drop a).take ((min (s.length : Int) ((a : Int) + 64)).toNat - a) = (s.drop a).take 64 := by
  have h1 : (min (s.length : Int) ((a : Int) + 64)).toNat - a = min (s.drop a).length 64 := by rw [List.length_drop]; omega
  rw [h1, Nat.min_comm, ← List.take_take, List.take_of_length_le (Nat.le_refl _)]
theorem eightD {h : List Nat} (hl : h.length = 8) : ∃ h0 h1 h2 h3 h4 h5 h6 h7, h = [h0, h1, h2, h3, h4, h5, h6, h7] := by
  match h, hl with
  | [a, b, c, d, e, f, g, i], _ => exact ⟨a, b, c, d, e, f, g, i, rfl⟩
theorem OkV.at_ {n : Nat} {v : List Nat} (h : OkV n v) {j : Nat} (hj : j < n) : v[j]? = some (v.getD j 0) := by
  rw [List.getD_eq_getElem?_getD, List.getElem?_eq_getElem (by rw [h.len]; exact hj)]
  rfl
theorem OwnS.cell {w : World} {B g c : Nat} {e : TypeId} {l : List (List UInt8)} (h : OwnL encS w B e (some ⟨g, 0, none⟩) c l) {j : Nat} {x : List UInt8} (hx : l[j]? = some x) : w.cell? ⟨g, j, none⟩ = some (S x) := by
  obtain ⟨b, off, hA, _, hc⟩ := h.read.at_S hx
  injection hA with hA
  injection hA with h1 h2
  subst h1 h2
  rwa [Nat.zero_add] at hc
theorem startV_small (h : List Nat) (hl : h.length = 8) (m : Nat) (hm : m ≤ 4000000) (l : Bool) : startV h m l = if l then (((h ++ ivN).set 12 (1359893119 ^^^ m)).set 13 2600822924).set 14 (4294967295 - 528734635) else ((h ++ ivN).set 12 (1359893119 ^^^ m)).set 13 2600822924 := by
  obtain ⟨h0, h1, h2, h3, h4, h5, h6, h7, rfl⟩ := eightD hl
  have m1 : m % 4294967296 = m := Nat.mod_eq_of_lt (by omega)
  have m2 : m / 4294967296 = 0 := Nat.div_eq_of_lt (by omega)
  unfold startV
  cases l <;> simp [ivN, m1, m2]
/-- the numbers when k halves of a mix are done -/
def hvG (v : List Nat) (a b c d x y : Nat) : Nat → List Nat
  | 0 => v
  | 1 => half v a b c d x 16 12
  | _ => mixV v a b c d x y
theorem hvG_ok {v : List Nat} (h : OkV 16 v) (a b c d x y : Nat) : ∀ k, OkV 16 (hvG v a b c d x y k)
  | 0 => h
  | 1 => h.half _ _ _ _ _ _ _
  | _ + 2 => h.mixV _ _ _ _ _ _
def turnOk (r : Nat) : Prop := ∀ (X : Nat) (W : World), X < 4294967296 → Calls Tryd.prog 36 #[.int .u32 (X : Int), .int .i64 (r : Int)] W fun e w' => e = .returned (.int .u32 ((rotr X r : Nat) : Int)) ∧ Below W.heap.size W w'
theorem selD (k : Nat) (hk : k < 2) (v : List Nat) (a b c d x y : Nat) : ∃ r1 r2 : Nat, ([.int .i64 16, .int .i64 12, .int .i64 8, .int .i64 7] : List Value)[k * 2]? = some (.int .i64 (r1 : Int)) ∧ ([.int .i64 16, .int .i64 12, .int .i64 8, .int .i64 7] : List Value)[k * 2 + 1]? = some (.int .i64 (r2 : Int)) ∧
    hvG v a b c d x y (k + 1) = half (hvG v a b c d x y k) a b c d (if k = 0 then x else y) r1 r2 ∧ turnOk r1 ∧ turnOk r2 := by
  match k, hk with
  | 0, _ => exact ⟨16, 12, rfl, rfl, rfl, fun X W hX => w_turn16 X hX W, fun X W hX => w_turn12 X hX W⟩
  | 1, _ => exact ⟨8, 7, rfl, rfl, rfl, fun X W hX => w_turn8 X hX W, fun X W hX => w_turn7 X hX W⟩
theorem wrap32 (y : Int) : IntKind.u32.wrap y = y % 4294967296 := by simp [IntKind.wrap, IntKind.bits, IntKind.signed]
theorem add32 (a b : Nat) : IntKind.u32.wrap ((a : Int) + (b : Int)) = (((a + b) % 4294967296 : Nat) : Int) := by rw [wrap32]; omega
theorem add32' (a b : Nat) : ((a : Int) + (b : Int)) % 4294967296 = (((a + b) % 4294967296 : Nat) : Int) := by omega
theorem mod32_lt (x : Nat) : x % 4294967296 < 4294967296 := Nat.mod_lt _ (by omega)
theorem dbl_i {i : Nat} (h : i < 8) : IntKind.i64.wrap (2 * (i : Int)) = 2 * (i : Int) := by simp [IntKind.wrap, IntKind.bits, IntKind.signed]; omega
theorem dbl_ik {i k : Nat} (h : i < 8) (hk : k < 2) : IntKind.i64.wrap (2 * (i : Int) + (k : Int)) = 2 * (i : Int) + (k : Int) := by simp [IntKind.wrap, IntKind.bits, IntKind.signed]; omega
theorem mix1 {v : List Nat} (h : OkV 16 v) {a b : Nat} (y : Nat) (ha : a < 16) (hb : b < 16) : ∃ qa qb q1 q2 : Nat, v[a]? = some qa ∧ v[b]? = some qb ∧ IntKind.u32.wrap ((qb : Int) + (y : Int)) = (q1 : Int) ∧ ((qb : Int) + (y : Int)) % 4294967296 = (q1 : Int) ∧ IntKind.u32.wrap ((qa : Int) + (q1 : Int)) = (q2 : Int) ∧ ((qa : Int) + (q1 : Int)) % 4294967296 = (q2 : Int) ∧ q1 < 4294967296 ∧ q2 < 4294967296 ∧ st1 v a b y = v.set a q2 :=
  ⟨_, _, _, _, OkV.at_ h ha, OkV.at_ h hb, add32 _ _, add32' _ _, add32 _ _, add32' _ _, mod32_lt _, mod32_lt _, rfl⟩
theorem mix2 {v : List Nat} (h : OkV 16 v) {d a : Nat} (r : Nat) (hd : d < 16) (ha : a < 16) : ∃ qd qa qx q2 : Nat, v[d]? = some qd ∧ v[a]? = some qa ∧ bits .xor .u32 (qd : Int) (qa : Int) = ((qx : Nat) : Int) ∧ qx < 4294967296 ∧ rotr qx r = q2 ∧ st2 v d a r = v.set d q2 :=
  ⟨_, _, _, _, OkV.at_ h hd, OkV.at_ h ha, u32_xor_nat _ _ (h.get _) (h.get _), xor_lt32 (h.get _) (h.get _), rfl, rfl⟩
theorem mix3 {v : List Nat} (h : OkV 16 v) {c d : Nat} (hc : c < 16) (hd : d < 16) : ∃ qc qd q2 : Nat, v[c]? = some qc ∧ v[d]? = some qd ∧ IntKind.u32.wrap ((qc : Int) + (qd : Int)) = (q2 : Int) ∧ ((qc : Int) + (qd : Int)) % 4294967296 = (q2 : Int) ∧ q2 < 4294967296 ∧ st3 v c d = v.set c q2 :=
  ⟨_, _, _, OkV.at_ h hc, OkV.at_ h hd, add32 _ _, add32' _ _, mod32_lt _, rfl⟩
theorem eqI {x y : Int} (h : x = y) : Value.int .i64 x = .int .i64 y := by rw [h]
theorem padB_lenD (rest : List UInt8) (h : rest.length ≤ 64) : (padB rest).length = 64 := by simp [padB]; omega
theorem sg_fields : Lib.fields sgT = sgL := by kernel_rfl
theorem sg_ascii : ∀ (j : Nat) (b : UInt8), sgT[j]? = some b → b.toNat < 128 := by
  have h : (sgT.all fun b => decide (b.toNat < 128)) = true := by decide
  intro j b hj
  have := List.all_eq_true.1 h b (List.mem_of_getElem? hj)
  simpa using this
theorem w_chrD (n : Nat) (hn : n < 256) (w : World) :
    Calls Tryd.prog 33 #[.int .i64 (n : Int)] w fun e w' => e = .returned (S [UInt8.ofNat n]) ∧ Below w.heap.size w w' := by
  have k1 := fun (W : World) (a : Int) => run_lit_str (P := Tryd.prog) 60 9 Tryd.underlying60 Tryd.underlying5 Tryd.underlying9 W [a] #[.int .u8 a] rfl 1 1 rfl W.heap.size rfl
  go_enter Tryd.func33, Tryd.ntmps33
  go_wp2_with fail
  go_ret
  refine ⟨ret_S ?_, by go_grown⟩
  simp
theorem sl_u32D : SlT Tryd.prog 67 56 1 4 := SlT.mk' (z := .int .u32 0) Tryd.underlying67 (by kernel_rfl) rfl
theorem w_CopyU (l : List Nat) (hl : l.length ≤ 100000) (A : Option Addr) (c : Nat) (w : World) (hr : ReadL encU w w.heap.size A l) :
    Calls Tryd.prog 31 #[.slice A l.length c] w fun e w' => (∃ A2 c2, e = .returned (.slice A2 l.length c2) ∧ OwnL encU w' w.heap.size 56 A2 c2 l) ∧ Below w.heap.size w w' := by
  have hn : OwnL encU w w.heap.size 56 none 0 ([] : List Nat) := OwnL.nil _ _ _
  go_enter Tryd.func31, Tryd.ntmps31
  go_wp2_with (at_builtin
               refine wpList_app_any encU sl_u32D l rfl _ _ rfl rfl hn rfl hr (by simp; omega) (by simp only [maxLen, List.length_nil]; omega) (Nat.le_refl _) ?_
               intro A2 c2 w3 hown3 hb3)
  go_ret
  exact ⟨⟨A2, c2, by simp, by simpa using hown3⟩, hb3⟩
/-- a row of numbers of 32 bits -/
abbrev RowU (w : World) (B g c : Nat) (v : List Nat) : Prop := OwnL encU w B 56 (some ⟨g, 0, none⟩) c v
theorem own_someU {w : World} {B c : Nat} {A : Option Addr} {l : List Nat} (h : OwnL encU w B 56 A c l) (hl : 0 < l.length) : ∃ g, A = some ⟨g, 0, none⟩ ∧ B ≤ g ∧ g < w.heap.size := by
  rcases h.2 with ⟨_, h0⟩ | ⟨g, cap, cur, h1, hb, h2, _⟩
  · omega
  · injection h1 with h1 _ _
    subst h1
    exact ⟨g, rfl, hb, (Array.getElem?_eq_some_iff.1 h2).1⟩
theorem RowU.cell {w : World} {B g c : Nat} {v : List Nat} (h : RowU w B g c v) {j x : Nat} (hx : v[j]? = some x) : w.cell? ⟨g, j, none⟩ = some (.int .u32 ((x : Nat) : Int)) := by
  obtain ⟨b, off, hA, _, hc⟩ := h.read.at_ hx
  injection hA with hA
  injection hA with h1 h2
  subst h1 h2
  have := hc 0 _ rfl
  rw [show 0 + j * encU.size + 0 = j from by show 0 + j * 1 + 0 = j; omega] at this
  exact this
theorem RowU.free {w : World} {B g c : Nat} {v : List Nat} (h : RowU w B g c v) (j : Nat) : w.frozen? ⟨g, j, none⟩ = false := by
  rcases h.2 with ⟨h0, _⟩ | ⟨g', cap, cur, h1, hb, h2, _⟩
  · injection h0 with h0; cases h0
  · injection h1 with h1 _ _
    injection h1 with h1
    injection h1 with h1
    subst h1
    simp [World.frozen?, h2]
theorem RowU.set {w : World} {B g c : Nat} {v : List Nat} (h : RowU w B g c v) (j x : Nat) : RowU (w.setCell ⟨g, j, none⟩ (.int .u32 ((x : Nat) : Int))) B g c (v.set j x) := by
  have := (World.ownsRow.stored h j (Value.int .u32 ((x : Nat) : Int))).1
  unfold RowU OwnL
  rw [List.length_set, flat_U, List.map_set]
  rw [flat_U] at this
  exact this
theorem rowU_ne {w : World} {B g c b : Nat} {v : List Nat} {cs : List Value} (h : RowU w B g c v) (hb : BoxAt w b 76 cs) : g ≠ b := by
  rintro rfl
  obtain ⟨cur, hc⟩ := OwnL.type_ h rfl
  have h1 : w.heap[g]? = some (.cells cs.toArray 76 (0, 0)) := hb
  rw [show (⟨g, 0, none⟩ : Addr).block = g from rfl, h1] at hc
  injection hc with hc
  injection hc with _ hc _
  exact absurd hc (by decide)
theorem RowU.lt {w : World} {B g c : Nat} {v : List Nat} (h : RowU w B g c v) (hl : 0 < v.length) : B ≤ g ∧ g < w.heap.size := by
  obtain ⟨g', hA, h1, h2⟩ := own_someU h hl
  injection hA with hA
  injection hA with hA
  subst hA
  exact ⟨h1, h2⟩
theorem mix4 {g v : List Nat} (hg : OkV 8 g) (hv : OkV 16 v) {i : Nat} (hi : i < 8) : ∃ q p0 p1 x1 x2 : Nat, g[i]? = some q ∧ v[i]? = some p0 ∧ v[i + 8]? = some p1 ∧ bits .xor .u32 (p0 : Int) (p1 : Int) = ((x1 : Nat) : Int) ∧ bits .xor .u32 (q : Int) (x1 : Int) = ((x2 : Nat) : Int) ∧ g.set i (g.getD i 0 ^^^ (v.getD i 0 ^^^ v.getD (i + 8) 0)) = g.set i x2 ∧ OkV 8 (g.set i x2) :=
  ⟨_, _, _, _, _, OkV.at_ hg hi, OkV.at_ hv (by omega), OkV.at_ hv (by omega), u32_xor_nat _ _ (hv.get _) (hv.get _), u32_xor_nat _ _ (hg.get _) (xor_lt32 (hv.get _) (hv.get _)), rfl, hg.set _ (xor_lt32 (hg.get _) (xor_lt32 (hv.get _) (hv.get _)))⟩
theorem dig_more {s blk : List UInt8} {a mny : Nat} {h v H2 : List Nat} (hblk : (s.drop a).take 64 = blk) (hl : a + 64 < s.length) (hm : a + blk.length = mny) (hv : allGo (padB blk) sigN (startV h mny false) = v) (he : endGo v 8 0 h = H2) (hg : digGo h a (s.drop a) = digN s) : digGo H2 (a + 64) (s.drop (a + 64)) = digN s := by
  have hlen : blk.length = 64 := by rw [← hblk]; simp; omega
  have hpad : padB blk = blk := by unfold padB; rw [hlen]; simp
  rw [digGo_more (by rw [List.length_drop]; omega), List.drop_drop, hblk] at hg
  rw [← hg, ← he, ← hv, hpad, ← hm, hlen]
  rfl
theorem dig_last {s blk : List UInt8} {a mny : Nat} {h v H2 : List Nat} (hblk : (s.drop a).take 64 = blk) (hl : s.length ≤ a + 64) (ha : a ≤ s.length) (hm : a + blk.length = mny) (hv : allGo (padB blk) sigN (startV h mny true) = v) (he : endGo v 8 0 h = H2) (hg : digGo h a (s.drop a) = digN s) : H2 = digN s := by
  have hb : blk = s.drop a := by rw [← hblk, List.take_of_length_le (by rw [List.length_drop]; omega)]
  rw [digGo_last (by rw [List.length_drop]; omega), ← hb] at hg
  rw [← hg, ← he, ← hv, ← hm]
  rfl
theorem le4_step (x : Nat) (hx : x < 4294967296) (m : Nat) (hm : m < 4) : (le4 x).take m ++ [UInt8.ofNat (x / 256 ^ m % 256)] = (le4 x).take (m + 1) := by
  have h3 : x / 16777216 % 256 = x / 16777216 := Nat.mod_eq_of_lt (by omega)
  match m, hm with
  | 0, _ => simp [le4]
  | 1, _ => simp [le4]
  | 2, _ => simp [le4]
  | 3, _ => simp [le4, h3]
theorem pow_step (x m : Nat) : x / 256 ^ (m + 1) = x / 256 ^ m / 256 := by rw [Nat.pow_succ, Nat.div_div_eq_div_mul]
theorem RowU.up {w : World} {B g c : Nat} {v : List Nat} (h : RowU w B g c v) : RowU w g g c v := by
  refine ⟨h.1, ?_⟩
  rcases h.2 with h0 | ⟨g', cap, cur, h1, hb, h2, h3⟩
  · exact Or.inl h0
  · have he : g = g' := by
      injection h1 with h1 _ _
      injection h1 with h1
      injection h1 with h1
    exact Or.inr ⟨g', cap, cur, h1, by omega, h2, h3⟩
end Go.Proofs.YtbchkaoocobpfaaDoor
