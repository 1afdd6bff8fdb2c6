/- A slice in a struct's field, opened; a held response among the arguments, opened. -/
import Derived.Test.YtcoghpokkhjhgaaGreatDoorOpen
import Derived.Test.YtcoghpokkhjhgaaGreatDoorWAge
namespace Go.Larder
open Go.RowKit Go.ChangeShapes Go.WideShapes Go.Deep
set_option linter.unusedVariables false
set_option linter.unusedSimpArgs false
section
variable {H : Type} {enc : TypeId × Value → H} {P : Program} {e : TypeId} {α : Type} {E : ElemT α} {dat : α → DataW H} {okx big : α → Prop} {bulk : α → Nat}
  {w : World} {base : Nat} {spare : Nat → Bool} {held : Bool} {r : Reach} {b0 : Nat} {t : TypeId} {v : Value} {y : DataW H × List MemPlace}
theorem uptoBulk_mem : ∀ (l : List (DataW H)) (d : DataW H), d ∈ l → Go.Proofs.YtcoghpokkhjhgaaGreatDoor.Rows.uptoBulk d ≤ Go.Proofs.YtcoghpokkhjhgaaGreatDoor.Rows.uptoBulkAll l
  | x :: l, d, h => by
    simp only [Go.Proofs.YtcoghpokkhjhgaaGreatDoor.Rows.uptoBulkAll]
    rcases List.mem_cons.1 h with rfl | h
    · omega
    · have := uptoBulk_mem l d h; omega
theorem uptoBulk_part {xs : List (DataW H × List MemPlace)} {j : Nat} {y : DataW H × List MemPlace} (h : xs[j]? = some y) : Go.Proofs.YtcoghpokkhjhgaaGreatDoor.Rows.uptoBulk y.1 + 1 ≤ Go.Proofs.YtcoghpokkhjhgaaGreatDoor.Rows.uptoBulk (.agg (xs.map (·.1))) := by
  have hm : y.1 ∈ xs.map (·.1) := List.mem_map.2 ⟨y, List.mem_of_getElem? h, rfl⟩
  have := uptoBulk_mem _ _ hm
  simp only [Go.Proofs.YtcoghpokkhjhgaaGreatDoor.Rows.uptoBulk]
  omega
end
end Go.Larder
namespace Go.Proofs.YtcoghpokkhjhgaaGreatDoor
open Go.RowKit Go.Larder
set_option linter.unusedVariables false
set_option linter.unusedSimpArgs false
open Go.ChangeShapes Go.WideShapes Go.Deep
section
variable {H : Type} {enc : TypeId × Value → H} {w : World} {base : Nat} {spare : Nat → Bool} {held : Bool} {r : Reach} {b0 : Nat} {v : Value} {d : DataW H} {p : List MemPlace}
set_option maxRecDepth 100000 in
theorem open_held (hv : Value.okWide Tryz.prog w r b0 30 v) (h : DataW.Trod enc Tryz.prog w base spare held 30 v d p) :
    ∃ (c0 c1 c2 c3 : Value) (code : Int) (c5 : Value) (A : Option Addr) (l : List Fld) (c : Nat) (c7 : Value) (ak cm : Int) (c10 : Value), v = .agg (heldC c0 c1 c2 c3 (.int .i64 code) c5 A l.length c c7 ak cm c10).toArray ∧ ReadL encF w w.heap.size A l ∧
      (l.map (fun f => f.1.length + f.2.length + 3)).sum + 1 ≤ Go.Proofs.YtcoghpokkhjhgaaGreatDoor.Rows.uptoBulk d ∧ (-9223372036854775808 ≤ code ∧ code ≤ 9223372036854775807) ∧ (-9223372036854775808 ≤ ak ∧ ak ≤ 9223372036854775807) ∧ (-9223372036854775808 ≤ cm ∧ cm ≤ 9223372036854775807) := by
  obtain ⟨cs, rfl, hsz⟩ := okWide_struct Tryz.underlying30 hv
  obtain ⟨L⟩ := cs
  have k32 : Program.cellsOf Tryz.prog 30 = 11 := by kernel_rfl
  have k30 : Program.cellsOf Tryz.prog 28 = 4 := by kernel_rfl
  have k3 : Program.cellsOf Tryz.prog 3 = 1 := by kernel_rfl
  have k22 : Program.cellsOf Tryz.prog 22 = 1 := by kernel_rfl
  match L, hsz.trans k32 with
  | [c0, c1, c2, c3, c4, c5, c6, c7, c8, c9, c10], _ =>
    obtain ⟨fuel, hf⟩ := h
    obtain ⟨xs, n, _, hx, _, hlen, hg⟩ := DataW.trod_struct Tryz.underlying30 hf
    injection hx with hd hp
    subst hd
    have g1 : DataW.trod enc Tryz.prog w base spare held n 28 (List.take (Program.cellsOf Tryz.prog 28) (List.drop 4 [c0, c1, c2, c3, c4, c5, c6, c7, c8, c9, c10])) = xs[1]? := hg 1 _ rfl
    rw [k30] at g1
    change DataW.trod enc Tryz.prog w base spare held n 28 [c4, c5, c6, c7] = _ at g1
    have g2 : DataW.trod enc Tryz.prog w base spare held n 3 (List.take (Program.cellsOf Tryz.prog 3) (List.drop 8 [c0, c1, c2, c3, c4, c5, c6, c7, c8, c9, c10])) = xs[2]? := hg 2 _ rfl
    rw [k3] at g2
    change DataW.trod enc Tryz.prog w base spare held n 3 [c8] = _ at g2
    have g3 : DataW.trod enc Tryz.prog w base spare held n 3 (List.take (Program.cellsOf Tryz.prog 3) (List.drop 9 [c0, c1, c2, c3, c4, c5, c6, c7, c8, c9, c10])) = xs[3]? := hg 3 _ rfl
    rw [k3] at g3
    change DataW.trod enc Tryz.prog w base spare held n 3 [c9] = _ at g3
    have hl5 : xs.length = 5 := hlen
    match xs, hl5 with
    | [y0, y1, y2, y3, y4], _ =>
      obtain ⟨ak, e2, hy2, w2⟩ := DataW.trod_int Tryz.underlying3 g2
      obtain ⟨cm, e3, hy3, w3⟩ := DataW.trod_int Tryz.underlying3 g3
      obtain ⟨ys, n', _, hx', _, hlen', hg'⟩ := DataW.trod_struct Tryz.underlying28 g1
      have f0 : DataW.trod enc Tryz.prog w base spare held n' 3 (List.take (Program.cellsOf Tryz.prog 3) (List.drop 0 [c4, c5, c6, c7])) = ys[0]? := hg' 0 _ rfl
      rw [k3] at f0
      change DataW.trod enc Tryz.prog w base spare held n' 3 [c4] = _ at f0
      have f2 : DataW.trod enc Tryz.prog w base spare held n' 22 (List.take (Program.cellsOf Tryz.prog 22) (List.drop 2 [c4, c5, c6, c7])) = ys[2]? := hg' 2 _ rfl
      rw [k22] at f2
      change DataW.trod enc Tryz.prog w base spare held n' 22 [c6] = _ at f2
      have hl4 : ys.length = 4 := hlen'
      match ys, hl4 with
      | [z0, z1, z2, z3], _ =>
        obtain ⟨code, e0, hz0, w0⟩ := DataW.trod_int Tryz.underlying3 f0
        obtain ⟨A, l, c, he, hlc, hcm, hrd, _, hdd⟩ := open_list_cell (d := z2.1) (ps := z2.2) (OpenE.texts (enc := enc) (f0 := _) (f1 := _) Tryz.underlying86 (by kernel_rfl) Tryz.underlying9 Tryz.underlying9 rfl rfl (by kernel_rfl) (by kernel_rfl)) Tryz.underlying22 f2
        have hb := bulk_list (enc := enc) (OpenE.texts (P := Tryz.prog) (f0 := _) (f1 := _) Tryz.underlying86 (by kernel_rfl) Tryz.underlying9 Tryz.underlying9 rfl rfl (by kernel_rfl) (by kernel_rfl)) hdd
        simp only [List.cons.injEq, and_true] at e0 e2 e3 he
        subst e0 e2 e3 he
        refine ⟨c0, c1, c2, c3, code, c5, A, l, c, c7, ak, cm, c10, rfl, hrd, ?_, bounds_i64 w0, bounds_i64 w2, bounds_i64 w3⟩
        have h1 := uptoBulk_part (xs := [z0, z1, z2, z3]) (j := 2) rfl
        have h2 := uptoBulk_part (xs := [y0, y1, y2, y3, y4]) (j := 1) rfl
        have h3 := congrArg (fun q => Go.Proofs.YtcoghpokkhjhgaaGreatDoor.Rows.uptoBulk q.1) hx'
        simp only at h3
        refine Nat.le_trans hb (Nat.le_trans (Nat.le_of_succ_le h1) ?_)
        exact Nat.le_trans (Nat.le_of_eq h3.symm) (Nat.le_of_succ_le h2)
end
end Go.Proofs.YtcoghpokkhjhgaaGreatDoor
