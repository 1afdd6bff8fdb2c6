/- Walk: rows: the chain, ranged over. -/
import Derived.Test.YtbchkaoocobpfaaWRw
import Derived.Test.YtbchkaoocobpfaaRngB
import Derived.WalkKit
import Derived.TacticsInMore
import Derived.LoopNIn
import Derived.LoopIn
import Derived.LaidEql
namespace Go.Proofs.Ytbchkaoocobpfaa
open Go.RowKit Go.Larder
attribute [local go_sem] Oper.semAt_some
set_option linter.unusedVariables false
set_option linter.unusedSimpArgs false
/-- what a round of a range over a chain leaves -/
def RndAll (l gc : Nat) (J : List Lnk → World → Prop) (D : World → Prop) : Prop := ∀ (t : Lnk) (r : List Lnk) (W : World), J (t :: r) W →
  (∃ p n, BoxAt W t.1 108 [S t.2.1, .int .i64 (t.2.2 : Int), p, n]) ∧ ¬ t.1 = gc ∧ (∃ cs, BoxAt W gc 110 cs) ∧
  YieldAt Fence.wide (8 - 1 - 1) Try.prog l #[S t.2.1] W fun e W' => (e = .returned (.bool true) ∧ J r W' ∧ ∃ p, BoxAt W' t.1 108 [S t.2.1, .int .i64 (t.2.2 : Int), p, pg (hd1 gc (bksL r))]) ∨ (e = .returned (.bool false) ∧ D W')
theorem szL : ∃ j, Try.prog.info? 108 = some j ∧ j.size = 4 := by
  have h : (Try.prog.info? 108).map (·.size) = some 4 := by kernel_rfl
  cases h0 : Try.prog.info? 108 with
  | none => rw [h0] at h; cases h
  | some j => rw [h0] at h; exact ⟨j, rfl, by simpa using h⟩
theorem eqIn_same (d a : Nat) (w : World) : (Op.equalIn (d + 1) 106 (pg a) (pg a)).run Try.prog w = .ok true w := by
  obtain ⟨j, h0, h1⟩ := szL
  simp [Op.equalIn, run_underlying Try.underlying106, sizeOf, run_sameAddr_same, h0, h1, typeInfo]
theorem eqIn_other {a b : Nat} (d : Nat) {w : World} {ta tb : TypeId} {ca cb : List Value} (hne : ¬ a = b) (ha : BoxAt w a ta ca) (hb : BoxAt w b tb cb) : (Op.equalIn (d + 1) 106 (pg a) (pg b)).run Try.prog w = .ok false w := by
  obtain ⟨j, h0, h1⟩ := szL
  have hsa := run_sameAddr_other (P := Try.prog) w (a := ⟨a, 0, none⟩) (b := ⟨b, 0, none⟩) (by intro e; injection e with e; exact hne e) ha hb
  simp [Op.equalIn, run_underlying Try.underlying106, sizeOf, hsa, h0, h1, typeInfo]
theorem neq_same (a : Nat) (w : World) : (binOp .neq 106 (pg a) (pg a)).run Try.prog w = .ok (.bool false) w := by
  simp only [binOp]
  simp [Op.equal, Op.maxDepth, eqIn_same 9999 a w]
theorem neq_other {a b : Nat} {w : World} {ta tb : TypeId} {ca cb : List Value} (hne : ¬ a = b) (ha : BoxAt w a ta ca) (hb : BoxAt w b tb cb) : (binOp .neq 106 (pg a) (pg b)).run Try.prog w = .ok (.bool true) w := by
  simp only [binOp]
  simp [Op.equal, Op.maxDepth, eqIn_other 9999 hne ha hb]
set_option maxHeartbeats 4000000 in
set_option maxRecDepth 100000 in
theorem it_all (l gc : Nat) (J : List Lnk → World → Prop) (D : World → Prop) (hJ : RndAll l gc J D) (L : List Lnk) (W1 : World) {a b c d : Value} (hroot : BoxAt W1 gc 110 [a, b, c, pg (hd1 gc (bksL L)), d]) (h1 : J L W1) :
    CallsIn Fence.wide (8 - 1) Try.prog 32 (#[pg gc] ++ #[.func (.yield l) #[] #[]] ++ #[]) W1 fun e W' => (∃ v, e = .returned v) ∧ (J [] W' ∨ D W') := by
  obtain ⟨M, hM⟩ : ∃ M : Value → World → Nat, M = fun v wr => leastN fun n => ∃ rest, rest.length = n ∧ v = pg (hd1 gc (bksL rest)) ∧ J rest wr := ⟨_, rfl⟩
  have hM1 : ∀ v wr rest, v = pg (hd1 gc (bksL rest)) → J rest wr → M v wr ≤ rest.length ∧ ∃ rest', rest'.length = M v wr ∧ v = pg (hd1 gc (bksL rest')) ∧ J rest' wr := by
    intro v wr rest h1 h2
    rw [hM]
    have := leastN_spec (p := fun n => ∃ rest, rest.length = n ∧ v = pg (hd1 gc (bksL rest)) ∧ J rest wr) ⟨rest, rfl, h1, h2⟩
    exact ⟨this.2 _ ⟨rest, rfl, h1, h2⟩, this.1⟩
  clear hM
  refine callsIn_of_wp Try.func32 rfl trivial ?_ rfl
  simp only [Try.ntmps32, List.size_toArray, List.length_cons, List.length_nil, Nat.reduceAdd, Nat.reduceSub, Array.replicate_succ, Array.replicate_zero, List.push_toArray, List.append_toArray, List.nil_append, List.cons_append]
  have c3 := hroot.cell (j := 3) rfl
  gi_wp2
  gi_loopw [4] (fun v wr => ∃ rest, rest.length = M v wr ∧ v = pg (hd1 gc (bksL rest)) ∧ J rest wr) (fun v wr => M v wr)
  case atStart => exact (hM1 _ _ L rfl h1).2
  case round =>
    obtain ⟨rest, hlen, rfl, hj⟩ := hrel
    cases rest with
    | nil =>
      have Hlen := Lib.hid hlen
      clear hlen hM1 hJ
      have e1 : pg (hd1 gc (bksL [])) = pg gc := rfl
      rw [e1]
      have hne := fun W => neq_same gc W
      gi_wp2
      go_end0
      exact ⟨⟨_, rfl⟩, .inl hj⟩
    | cons t r =>
      obtain ⟨⟨p, n, hb⟩, hne, ⟨cs, hbr⟩, hy⟩ := hJ t r wr hj
      have c0 := hb.cell (j := 0) rfl
      obtain ⟨fn, tmps, assign, body, hy1, hy2⟩ := hy
      have Hlen := Lib.hid hlen
      have HM := Lib.hid hM1
      have e1 : pg (hd1 gc (bksL (t :: r))) = pg t.1 := rfl
      rw [e1]
      obtain ⟨g, k, s⟩ := t
      simp only at hb hne c0 hy1 hy2
      have hnq := neq_other hne hb hbr
      clear hlen hM1 hJ e1
      gi_wp2
      refine hy2.mono ?_
      rintro e W' (⟨rfl, hj', q, hb'⟩ | ⟨rfl, hd⟩)
      · have c3 := hb'.cell (j := 3) rfl
        gi_wp2
        have h2 := HM.out _ _ r rfl hj'
        have h3 := Hlen.out
        refine ⟨h2.2, ?_⟩
        have h4 : M (pg g) wr = r.length + 1 := by
          have h5 : M (pg g) wr = M (pg (hd1 gc (bksL ((g, k, s) :: r)))) wr := rfl
          rw [h5, ← h3]
          rfl
        have := h2.1
        omega
      · gi_wp2
        refine bodyPost_ret (results_none rfl _ _ _) rfl ?_
        exact ⟨⟨_, rfl⟩, .inr hd⟩
end Go.Proofs.Ytbchkaoocobpfaa
