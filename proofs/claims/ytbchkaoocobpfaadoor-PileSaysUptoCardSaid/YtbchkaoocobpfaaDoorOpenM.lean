/- A request, a response among the arguments, opened. -/
import Derived.Test.YtbchkaoocobpfaaDoorOpen
namespace Go.Larder
open Go.RowKit Go.ChangeShapes Go.WideShapes Go.Deep
set_option linter.unusedVariables false
set_option linter.unusedSimpArgs false
section
variable {H : Type} {enc : TypeId × Value → H} {P : Program} {e : TypeId} {α : Type} {E : ElemT α} {dat : α → DataW H} {okx big : α → Prop} {bulk : α → Nat}
  {w : World} {base : Nat} {spare : Nat → Bool} {held : Bool} {r : Reach} {b0 : Nat} {t : TypeId} {v : Value} {y : DataW H × List MemPlace}
theorem uptoB_mem : ∀ (l : List (DataW H)) (d : DataW H), d ∈ l → Go.Proofs.YtbchkaoocobpfaaDoor.Rows.uptoBulk d ≤ Go.Proofs.YtbchkaoocobpfaaDoor.Rows.uptoBulkAll l
  | x :: l, d, h => by
    simp only [Go.Proofs.YtbchkaoocobpfaaDoor.Rows.uptoBulkAll]
    rcases List.mem_cons.1 h with rfl | h
    · omega
    · have := uptoB_mem l d h; omega
theorem uptoB_part {xs : List (DataW H × List MemPlace)} {j : Nat} {y : DataW H × List MemPlace} (h : xs[j]? = some y) : Go.Proofs.YtbchkaoocobpfaaDoor.Rows.uptoBulk y.1 + 1 ≤ Go.Proofs.YtbchkaoocobpfaaDoor.Rows.uptoBulk (.agg (xs.map (·.1))) := by
  have hm : y.1 ∈ xs.map (·.1) := List.mem_map.2 ⟨y, List.mem_of_getElem? h, rfl⟩
  have := uptoB_mem _ _ hm
  simp only [Go.Proofs.YtbchkaoocobpfaaDoor.Rows.uptoBulk]
  omega
end
end Go.Larder
namespace Go.Proofs.YtbchkaoocobpfaaDoor
open Go.RowKit Go.Larder
set_option linter.unusedVariables false
set_option linter.unusedSimpArgs false
open Go.ChangeShapes Go.WideShapes Go.Deep
section
variable {H : Type} {enc : TypeId × Value → H} {w : World} {base : Nat} {spare : Nat → Bool} {held : Bool} {r : Reach} {b0 : Nat} {v : Value} {d : DataW H} {p : List MemPlace}
set_option maxRecDepth 100000 in
theorem open_req (hv : Value.okWide Tryd.prog w r b0 40 v) (h : DataW.Trod enc Tryd.prog w base spare held 40 v d p) :
    ∃ (m t : List UInt8) (A : Option Addr) (l : List (List UInt8 × List UInt8)) (c : Nat) (b : List UInt8), v = .agg #[S m, S t, .slice A l.length c, S b] ∧ ReadL encF w w.heap.size A l ∧
      m.length ≤ Go.Proofs.YtbchkaoocobpfaaDoor.Rows.uptoBulk d ∧ t.length ≤ Go.Proofs.YtbchkaoocobpfaaDoor.Rows.uptoBulk d ∧ (l.map (fun f => f.1.length + f.2.length + 3)).sum ≤ Go.Proofs.YtbchkaoocobpfaaDoor.Rows.uptoBulk d ∧ b.length ≤ Go.Proofs.YtbchkaoocobpfaaDoor.Rows.uptoBulk d := by
  obtain ⟨cs, rfl, hsz⟩ := okWide_struct Tryd.underlying40 hv
  obtain ⟨L⟩ := cs
  have k4 : Program.cellsOf Tryd.prog 40 = 4 := by kernel_rfl
  have k0 : Program.cellsOf Tryd.prog 9 = 1 := by kernel_rfl
  have k1 : Program.cellsOf Tryd.prog 9 = 1 := by kernel_rfl
  have k2 : Program.cellsOf Tryd.prog 38 = 1 := by kernel_rfl
  match L, hsz.trans k4 with
  | [c0, c1, c2, c3], _ =>
    obtain ⟨fuel, hf⟩ := h
    obtain ⟨xs, n, _, hx, _, hlen, hg⟩ := DataW.trod_struct Tryd.underlying40 hf
    injection hx with hd hp
    subst hd
    have g0 : DataW.trod enc Tryd.prog w base spare held n 9 (List.take (Program.cellsOf Tryd.prog 9) (List.drop 0 [c0, c1, c2, c3])) = xs[0]? := hg 0 _ rfl
    rw [k0] at g0
    change DataW.trod enc Tryd.prog w base spare held n 9 [c0] = _ at g0
    have g1 : DataW.trod enc Tryd.prog w base spare held n 9 (List.take (Program.cellsOf Tryd.prog 9) (List.drop 1 [c0, c1, c2, c3])) = xs[1]? := hg 1 _ rfl
    rw [k1] at g1
    change DataW.trod enc Tryd.prog w base spare held n 9 [c1] = _ at g1
    have g2 : DataW.trod enc Tryd.prog w base spare held n 38 (List.take (Program.cellsOf Tryd.prog 38) (List.drop 2 [c0, c1, c2, c3])) = xs[2]? := hg 2 _ rfl
    rw [k2] at g2
    change DataW.trod enc Tryd.prog w base spare held n 38 [c2] = _ at g2
    have g3 : DataW.trod enc Tryd.prog w base spare held n 9 (List.take (Program.cellsOf Tryd.prog 9) (List.drop 3 [c0, c1, c2, c3])) = xs[3]? := hg 3 _ rfl
    rw [k1] at g3
    change DataW.trod enc Tryd.prog w base spare held n 9 [c3] = _ at g3
    have hl4 : xs.length = 4 := hlen
    match xs, hl4 with
    | [z0, z1, z2, z3], _ =>
      obtain ⟨s0, e0, hz0, w0⟩ := DataW.trod_string Tryd.underlying9 g0
      obtain ⟨s1, e1, hz1, w1⟩ := DataW.trod_string Tryd.underlying9 g1
      obtain ⟨s3, e3, hz3, w3⟩ := DataW.trod_string Tryd.underlying9 g3
      obtain ⟨A, l, c, he, hlc, hcm, hrd, _, hdd⟩ := open_list_cell (d := z2.1) (ps := z2.2) (OpenE.texts (enc := enc) (f0 := _) (f1 := _) Tryd.underlying167 (by kernel_rfl) Tryd.underlying9 Tryd.underlying9 rfl rfl (by kernel_rfl) (by kernel_rfl)) Tryd.underlying38 g2
      have hb := bulk_list (enc := enc) (OpenE.texts (P := Tryd.prog) (f0 := _) (f1 := _) Tryd.underlying167 (by kernel_rfl) Tryd.underlying9 Tryd.underlying9 rfl rfl (by kernel_rfl) (by kernel_rfl)) hdd
      simp only [List.cons.injEq, and_true] at e0 e1 e3 he
      subst e0 e1 e3 he
      obtain ⟨⟨s0⟩⟩ := s0
      obtain ⟨⟨s1⟩⟩ := s1
      obtain ⟨⟨s3⟩⟩ := s3
      have q0 := uptoB_part (xs := [z0, z1, z2, z3]) (j := 0) rfl
      have q1 := uptoB_part (xs := [z0, z1, z2, z3]) (j := 1) rfl
      have q2 := uptoB_part (xs := [z0, z1, z2, z3]) (j := 2) rfl
      have q3 := uptoB_part (xs := [z0, z1, z2, z3]) (j := 3) rfl
      subst hz0 hz1 hz3
      simp only [Go.Proofs.YtbchkaoocobpfaaDoor.Rows.uptoBulk] at q0 q1 q3
      refine ⟨s0, s1, A, l, c, s3, rfl, hrd, ?_, ?_, ?_, ?_⟩
      all_goals first | exact Nat.le_trans (by omega) q0 | exact Nat.le_trans (by omega) q1 | exact Nat.le_trans (by omega) q3 | exact Nat.le_trans (Nat.le_of_succ_le hb) (Nat.le_of_succ_le q2)
set_option maxRecDepth 100000 in
theorem open_resp (hv : Value.okWide Tryd.prog w r b0 42 v) (h : DataW.Trod enc Tryd.prog w base spare held 42 v d p) :
    ∃ (m : Int) (t : List UInt8) (A : Option Addr) (l : List (List UInt8 × List UInt8)) (c : Nat) (b : List UInt8), v = .agg #[.int .i64 m, S t, .slice A l.length c, S b] ∧ ReadL encF w w.heap.size A l ∧
      (-9223372036854775808 ≤ m ∧ m ≤ 9223372036854775807) ∧ t.length ≤ Go.Proofs.YtbchkaoocobpfaaDoor.Rows.uptoBulk d ∧ (l.map (fun f => f.1.length + f.2.length + 3)).sum ≤ Go.Proofs.YtbchkaoocobpfaaDoor.Rows.uptoBulk d ∧ b.length ≤ Go.Proofs.YtbchkaoocobpfaaDoor.Rows.uptoBulk d := by
  obtain ⟨cs, rfl, hsz⟩ := okWide_struct Tryd.underlying42 hv
  obtain ⟨L⟩ := cs
  have k4 : Program.cellsOf Tryd.prog 42 = 4 := by kernel_rfl
  have k0 : Program.cellsOf Tryd.prog 3 = 1 := by kernel_rfl
  have k1 : Program.cellsOf Tryd.prog 9 = 1 := by kernel_rfl
  have k2 : Program.cellsOf Tryd.prog 38 = 1 := by kernel_rfl
  match L, hsz.trans k4 with
  | [c0, c1, c2, c3], _ =>
    obtain ⟨fuel, hf⟩ := h
    obtain ⟨xs, n, _, hx, _, hlen, hg⟩ := DataW.trod_struct Tryd.underlying42 hf
    injection hx with hd hp
    subst hd
    have g0 : DataW.trod enc Tryd.prog w base spare held n 3 (List.take (Program.cellsOf Tryd.prog 3) (List.drop 0 [c0, c1, c2, c3])) = xs[0]? := hg 0 _ rfl
    rw [k0] at g0
    change DataW.trod enc Tryd.prog w base spare held n 3 [c0] = _ at g0
    have g1 : DataW.trod enc Tryd.prog w base spare held n 9 (List.take (Program.cellsOf Tryd.prog 9) (List.drop 1 [c0, c1, c2, c3])) = xs[1]? := hg 1 _ rfl
    rw [k1] at g1
    change DataW.trod enc Tryd.prog w base spare held n 9 [c1] = _ at g1
    have g2 : DataW.trod enc Tryd.prog w base spare held n 38 (List.take (Program.cellsOf Tryd.prog 38) (List.drop 2 [c0, c1, c2, c3])) = xs[2]? := hg 2 _ rfl
    rw [k2] at g2
    change DataW.trod enc Tryd.prog w base spare held n 38 [c2] = _ at g2
    have g3 : DataW.trod enc Tryd.prog w base spare held n 9 (List.take (Program.cellsOf Tryd.prog 9) (List.drop 3 [c0, c1, c2, c3])) = xs[3]? := hg 3 _ rfl
    rw [k1] at g3
    change DataW.trod enc Tryd.prog w base spare held n 9 [c3] = _ at g3
    have hl4 : xs.length = 4 := hlen
    match xs, hl4 with
    | [z0, z1, z2, z3], _ =>
      obtain ⟨s0, e0, hz0, w0⟩ := DataW.trod_int Tryd.underlying3 g0
      obtain ⟨s1, e1, hz1, w1⟩ := DataW.trod_string Tryd.underlying9 g1
      obtain ⟨s3, e3, hz3, w3⟩ := DataW.trod_string Tryd.underlying9 g3
      obtain ⟨A, l, c, he, hlc, hcm, hrd, _, hdd⟩ := open_list_cell (d := z2.1) (ps := z2.2) (OpenE.texts (enc := enc) (f0 := _) (f1 := _) Tryd.underlying167 (by kernel_rfl) Tryd.underlying9 Tryd.underlying9 rfl rfl (by kernel_rfl) (by kernel_rfl)) Tryd.underlying38 g2
      have hb := bulk_list (enc := enc) (OpenE.texts (P := Tryd.prog) (f0 := _) (f1 := _) Tryd.underlying167 (by kernel_rfl) Tryd.underlying9 Tryd.underlying9 rfl rfl (by kernel_rfl) (by kernel_rfl)) hdd
      simp only [List.cons.injEq, and_true] at e0 e1 e3 he
      subst e0 e1 e3 he
      skip
      obtain ⟨⟨s1⟩⟩ := s1
      obtain ⟨⟨s3⟩⟩ := s3
      have q0 := uptoB_part (xs := [z0, z1, z2, z3]) (j := 0) rfl
      have q1 := uptoB_part (xs := [z0, z1, z2, z3]) (j := 1) rfl
      have q2 := uptoB_part (xs := [z0, z1, z2, z3]) (j := 2) rfl
      have q3 := uptoB_part (xs := [z0, z1, z2, z3]) (j := 3) rfl
      subst hz0 hz1 hz3
      simp only [Go.Proofs.YtbchkaoocobpfaaDoor.Rows.uptoBulk] at q0 q1 q3
      refine ⟨s0, s1, A, l, c, s3, rfl, hrd, bounds_i64 w0, ?_, ?_, ?_⟩
      all_goals first | exact Nat.le_trans (by omega) q0 | exact Nat.le_trans (by omega) q1 | exact Nat.le_trans (by omega) q3 | exact Nat.le_trans (Nat.le_of_succ_le hb) (Nat.le_of_succ_le q2)
end
end Go.Proofs.YtbchkaoocobpfaaDoor
