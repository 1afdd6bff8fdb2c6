/- WDgM, WDgR -/
import Derived.Test.YtemjoiaapfhenaaGreatDoorGd00
import Derived.Test.YtemjoiaapfhenaaGreatDoorChecked
import Derived.StillTailTactics
import Derived.Deep.RegionHeld3
import Derived.Deep.DeepCutAuto

/- WDgM -/
section
namespace Go.Proofs.YtemjoiaapfhenaaGreatDoor
open Go.RowKit Go.Larder
set_option linter.unusedVariables false
set_option linter.unusedSimpArgs false
def U (n : Nat) : Value := .int .u32 (n : Int)
theorem rot_or {x k s : Nat} (hx : x < 4294967296) (hk : 32 - k = s) : bits .or .u32 ((x : Int) * 2 ^ s % 4294967296) ((x : Int) / 2 ^ k) = ((rotr x k : Nat) : Int) := by
  subst hk
  have h1 : x / 2 ^ k < 4294967296 := Nat.lt_of_le_of_lt (Nat.div_le_self _ _) hx
  have e1 : ((x : Int) * 2 ^ (32 - k) % 4294967296) = ((x * 2 ^ (32 - k) % 4294967296 : Nat) : Int) := by rw [Int.natCast_emod, Int.natCast_mul, Int.natCast_pow]; rfl
  have e2 : ((x : Int) / 2 ^ k) = ((x / 2 ^ k : Nat) : Int) := by rw [Int.natCast_ediv, Int.natCast_pow]; rfl
  rw [e1, e2, u32_or_nat _ _ (Nat.mod_lt _ (by omega)) h1, Nat.or_comm]
  rfl
theorem w_rot16 (x : Nat) (hx : x < 4294967296) (w : World) : Calls Tryz.prog 233 #[.int .u32 x, .int .i64 (-16)] w fun e w' => e = .returned (.int .u32 (rotr x 16 : Nat)) ∧ w = w' := by
  have e : bits BinOp.and IntKind.u64 (IntKind.u64.wrap (-16)) 31 = 16 := by decide
  go_enter Tryz.func233, Tryz.ntmps233
  go_wp2_with fail
  go_ret
  exact ⟨ret_int (rot_or (k := 16) (s := 16) hx rfl), rfl⟩
theorem w_rot12 (x : Nat) (hx : x < 4294967296) (w : World) : Calls Tryz.prog 233 #[.int .u32 x, .int .i64 (-12)] w fun e w' => e = .returned (.int .u32 (rotr x 12 : Nat)) ∧ w = w' := by
  have e : bits BinOp.and IntKind.u64 (IntKind.u64.wrap (-12)) 31 = 20 := by decide
  go_enter Tryz.func233, Tryz.ntmps233
  go_wp2_with fail
  go_ret
  exact ⟨ret_int (rot_or (k := 12) (s := 20) hx rfl), rfl⟩
theorem w_rot8 (x : Nat) (hx : x < 4294967296) (w : World) : Calls Tryz.prog 233 #[.int .u32 x, .int .i64 (-8)] w fun e w' => e = .returned (.int .u32 (rotr x 8 : Nat)) ∧ w = w' := by
  have e : bits BinOp.and IntKind.u64 (IntKind.u64.wrap (-8)) 31 = 24 := by decide
  go_enter Tryz.func233, Tryz.ntmps233
  go_wp2_with fail
  go_ret
  exact ⟨ret_int (rot_or (k := 8) (s := 24) hx rfl), rfl⟩
theorem w_rot7 (x : Nat) (hx : x < 4294967296) (w : World) : Calls Tryz.prog 233 #[.int .u32 x, .int .i64 (-7)] w fun e w' => e = .returned (.int .u32 (rotr x 7 : Nat)) ∧ w = w' := by
  have e : bits BinOp.and IntKind.u64 (IntKind.u64.wrap (-7)) 31 = 25 := by decide
  go_enter Tryz.func233, Tryz.ntmps233
  go_wp2_with fail
  go_ret
  exact ⟨ret_int (rot_or (k := 7) (s := 25) hx rfl), rfl⟩
theorem okv_cell {v : List Nat} {w : World} {g : Nat} {T : TypeId} (hv : OkV 16 v) (hb : BoxAt w g T (v.map U)) {a : Nat} (ha : a < 16) : w.cell? ⟨g, a, none⟩ = some (.int .u32 ((v.getD a 0 : Nat) : Int)) :=
  hb.cell (j := a) (by
    rw [List.getElem?_map, List.getD_eq_getElem?_getD]
    have : a < v.length := by rw [hv.len]; exact ha
    rw [List.getElem?_eq_getElem this]
    rfl)
theorem box_set {v : List Nat} {w : World} {g : Nat} {T : TypeId} (hb : BoxAt w g T (v.map U)) (a x : Nat) : BoxAt (w.setCell ⟨g, a, none⟩ (.int .u32 (x : Int))) g T ((v.set a x).map U) := by
  have := hb.set a (U x)
  rw [List.map_set]
  exact this
set_option maxHeartbeats 4000000 in
set_option maxRecDepth 100000 in
theorem w_mix (g : Nat) (v : List Nat) (hv : OkV 16 v) (a b c d x y : Nat) (ha : a < 16) (hb : b < 16) (hc : c < 16) (hd : d < 16) (hx : x < 4294967296) (hy : y < 4294967296) (w : World) (hbx : BoxAt w g 213 (v.map U)) :
    Calls Tryz.prog 215 #[.pointer (some ⟨g, 0, none⟩), .agg #[.int .i64 a, .int .i64 b, .int .i64 c, .int .i64 d], .int .u32 x, .int .u32 y] w fun e w' => e = .returned (.tuple #[]) ∧ BoxAt w' g 213 ((mixV v a b c d x y).map U) ∧ SameBut (fun j => j = g) w w' := by
  have bx := BoxAt.new w [.int .i64 a, .int .i64 b, .int .i64 c, .int .i64 d] 214
  have q0 := bx.cell (j := 0) rfl
  have q1 := bx.cell (j := 1) rfl
  have q2 := bx.cell (j := 2) rfl
  have q3 := bx.cell (j := 3) rfl
  have hb0 := (hbx.alloc (.cells #[.int .i64 a, .int .i64 b, .int .i64 c, .int .i64 d] 214)).drew
  have hs0 := ((SameBut.refl (B := fun j => j = g) w).alloc (.cells #[.int .i64 a, .int .i64 b, .int .i64 c, .int .i64 d] 214)).drew
  have a0 : (0 : Int) ≤ a := by omega
  have a1 : (a : Int) < 16 := by omega
  have b0 : (0 : Int) ≤ b := by omega
  have b1 : (b : Int) < 16 := by omega
  have c0 : (0 : Int) ≤ c := by omega
  have c1 : (c : Int) < 16 := by omega
  have d0 : (0 : Int) ≤ d := by omega
  have d1 : (d : Int) < 16 := by omega
  go_enter Tryz.func215, Tryz.ntmps215
  go_wp2_with fail
  go_region_held3 (fun W => W = (w.alloc (.cells #[.int .i64 a, .int .i64 b, .int .i64 c, .int .i64 d] 214)).drew) ((rfl)) ((fail))
  clear q0 q1 q2 q3 bx
  generalize (w.alloc (.cells #[.int .i64 a, .int .i64 b, .int .i64 c, .int .i64 d] 214)).drew = W0 at *
  have cp := okv_cell hv hb0 ha
  have cq := okv_cell hv hb0 hb
  have fp := hb0.free a
  have lp := hv.get a
  have lq := hv.get b
  generalize hPv : v.getD a 0 = Pv at cp lp
  generalize hQv : v.getD b 0 = Qv at cq lq
  go_wp2_with fail
  refine wp_region_still_tail 10 (by kernel_rfl) (by kernel_rfl) ?_
  simp only [List.take_succ_cons, List.take_zero, List.drop_succ_cons, List.drop_zero]
  repeat still_step
  try refine wpStill_nil ?_
  change wpList _ _ _ _ _ W0.drew
  go_wp2_with fail
  have hE : ((Pv : Nat) + ((Qv : Nat) + (x : Nat) : Int) % 4294967296 : Int) % 4294967296 = ((((Pv + (Qv + x) % 4294967296) % 4294967296) : Nat) : Int) := by omega
  rw [hE]
  clear hE
  subst hPv hQv
  have hb1 : BoxAt (W0.setCell ⟨g, a, none⟩ (.int .u32 ((((v.getD a 0 + (v.getD b 0 + x) % 4294967296) % 4294967296) : Nat) : Int))).drew g 213 ((st1 v a b x).map U) := (box_set hb0 a ((v.getD a 0 + (v.getD b 0 + x) % 4294967296) % 4294967296)).drew
  have hs1 := (hs0.setCell ⟨g, a, none⟩ (.int .u32 ((((v.getD a 0 + (v.getD b 0 + x) % 4294967296) % 4294967296) : Nat) : Int)) (fun _ => rfl)).drew
  have hv1 := hv.st1 a b x
  clear cp cq fp lp lq
  generalize (W0.setCell ⟨g, a, none⟩ (.int .u32 ((((v.getD a 0 + (v.getD b 0 + x) % 4294967296) % 4294967296) : Nat) : Int))).drew = W1 at *
  generalize he1 : st1 v a b x = v1 at *
  have He1 := Lib.hid he1
  clear he1 hb0 hs0
  have cp := okv_cell hv1 hb1 hd
  have cq := okv_cell hv1 hb1 ha
  have fp := hb1.free d
  have lp := hv1.get d
  have lq := hv1.get a
  generalize hPv : v1.getD d 0 = Pv at cp lp
  generalize hQv : v1.getD a 0 = Qv at cq lq
  have hxr := u32_xor_nat _ _ lp lq
  have hrt := fun W => w_rot16 (Pv ^^^ Qv) (xor_lt32 lp lq) W
  rw [← hxr] at hrt
  clear hxr
  go_wp2_with fail
  refine wp_region_still_tail 10 (by kernel_rfl) (by kernel_rfl) ?_
  simp only [List.take_succ_cons, List.take_zero, List.drop_succ_cons, List.drop_zero]
  repeat still_step
  still_call ((hrt _).mono (by rintro e w' ⟨rfl, rfl⟩; exact ⟨rfl, rfl⟩))
  repeat still_step
  try refine wpStill_nil ?_
  change wpList _ _ _ _ _ W1.drew
  go_wp2_with fail
  subst hPv hQv
  have hb2 : BoxAt (W1.setCell ⟨g, d, none⟩ (.int .u32 (((rotr (v1.getD d 0 ^^^ v1.getD a 0) 16) : Nat) : Int))).drew g 213 ((st2 v1 d a 16).map U) := (box_set hb1 d (rotr (v1.getD d 0 ^^^ v1.getD a 0) 16)).drew
  have hs2 := (hs1.setCell ⟨g, d, none⟩ (.int .u32 (((rotr (v1.getD d 0 ^^^ v1.getD a 0) 16) : Nat) : Int)) (fun _ => rfl)).drew
  have hv2 := hv1.st2 d a 16
  clear cp cq fp lp lq hrt
  generalize (W1.setCell ⟨g, d, none⟩ (.int .u32 (((rotr (v1.getD d 0 ^^^ v1.getD a 0) 16) : Nat) : Int))).drew = W2 at *
  generalize he2 : st2 v1 d a 16 = v2 at *
  have He2 := Lib.hid he2
  clear he2 hb1 hs1 hv1
  have cp := okv_cell hv2 hb2 hc
  have cq := okv_cell hv2 hb2 hd
  have fp := hb2.free c
  have lp := hv2.get c
  have lq := hv2.get d
  generalize hPv : v2.getD c 0 = Pv at cp lp
  generalize hQv : v2.getD d 0 = Qv at cq lq
  go_wp2_with fail
  refine wp_region_still_tail 8 (by kernel_rfl) (by kernel_rfl) ?_
  simp only [List.take_succ_cons, List.take_zero, List.drop_succ_cons, List.drop_zero]
  repeat still_step
  try refine wpStill_nil ?_
  change wpList _ _ _ _ _ W2.drew
  go_wp2_with fail
  have hE : ((Pv : Nat) + (Qv : Nat) : Int) % 4294967296 = ((((Pv + Qv) % 4294967296) : Nat) : Int) := by omega
  rw [hE]
  clear hE
  subst hPv hQv
  have hb3 : BoxAt (W2.setCell ⟨g, c, none⟩ (.int .u32 ((((v2.getD c 0 + v2.getD d 0) % 4294967296) : Nat) : Int))).drew g 213 ((st3 v2 c d).map U) := (box_set hb2 c ((v2.getD c 0 + v2.getD d 0) % 4294967296)).drew
  have hs3 := (hs2.setCell ⟨g, c, none⟩ (.int .u32 ((((v2.getD c 0 + v2.getD d 0) % 4294967296) : Nat) : Int)) (fun _ => rfl)).drew
  have hv3 := hv2.st3 c d
  clear cp cq fp lp lq
  generalize (W2.setCell ⟨g, c, none⟩ (.int .u32 ((((v2.getD c 0 + v2.getD d 0) % 4294967296) : Nat) : Int))).drew = W3 at *
  generalize he3 : st3 v2 c d = v3 at *
  have He3 := Lib.hid he3
  clear he3 hb2 hs2 hv2
  have cp := okv_cell hv3 hb3 hb
  have cq := okv_cell hv3 hb3 hc
  have fp := hb3.free b
  have lp := hv3.get b
  have lq := hv3.get c
  generalize hPv : v3.getD b 0 = Pv at cp lp
  generalize hQv : v3.getD c 0 = Qv at cq lq
  have hxr := u32_xor_nat _ _ lp lq
  have hrt := fun W => w_rot12 (Pv ^^^ Qv) (xor_lt32 lp lq) W
  rw [← hxr] at hrt
  clear hxr
  go_wp2_with fail
  refine wp_region_still_tail 10 (by kernel_rfl) (by kernel_rfl) ?_
  simp only [List.take_succ_cons, List.take_zero, List.drop_succ_cons, List.drop_zero]
  repeat still_step
  still_call ((hrt _).mono (by rintro e w' ⟨rfl, rfl⟩; exact ⟨rfl, rfl⟩))
  repeat still_step
  try refine wpStill_nil ?_
  change wpList _ _ _ _ _ W3.drew
  go_wp2_with fail
  subst hPv hQv
  have hb4 : BoxAt (W3.setCell ⟨g, b, none⟩ (.int .u32 (((rotr (v3.getD b 0 ^^^ v3.getD c 0) 12) : Nat) : Int))).drew g 213 ((st2 v3 b c 12).map U) := (box_set hb3 b (rotr (v3.getD b 0 ^^^ v3.getD c 0) 12)).drew
  have hs4 := (hs3.setCell ⟨g, b, none⟩ (.int .u32 (((rotr (v3.getD b 0 ^^^ v3.getD c 0) 12) : Nat) : Int)) (fun _ => rfl)).drew
  have hv4 := hv3.st2 b c 12
  clear cp cq fp lp lq hrt
  generalize (W3.setCell ⟨g, b, none⟩ (.int .u32 (((rotr (v3.getD b 0 ^^^ v3.getD c 0) 12) : Nat) : Int))).drew = W4 at *
  generalize he4 : st2 v3 b c 12 = v4 at *
  have He4 := Lib.hid he4
  clear he4 hb3 hs3 hv3
  have cp := okv_cell hv4 hb4 ha
  have cq := okv_cell hv4 hb4 hb
  have fp := hb4.free a
  have lp := hv4.get a
  have lq := hv4.get b
  generalize hPv : v4.getD a 0 = Pv at cp lp
  generalize hQv : v4.getD b 0 = Qv at cq lq
  go_wp2_with fail
  refine wp_region_still_tail 10 (by kernel_rfl) (by kernel_rfl) ?_
  simp only [List.take_succ_cons, List.take_zero, List.drop_succ_cons, List.drop_zero]
  repeat still_step
  try refine wpStill_nil ?_
  change wpList _ _ _ _ _ W4.drew
  go_wp2_with fail
  have hE : ((Pv : Nat) + ((Qv : Nat) + (y : Nat) : Int) % 4294967296 : Int) % 4294967296 = ((((Pv + (Qv + y) % 4294967296) % 4294967296) : Nat) : Int) := by omega
  rw [hE]
  clear hE
  subst hPv hQv
  have hb5 : BoxAt (W4.setCell ⟨g, a, none⟩ (.int .u32 ((((v4.getD a 0 + (v4.getD b 0 + y) % 4294967296) % 4294967296) : Nat) : Int))).drew g 213 ((st1 v4 a b y).map U) := (box_set hb4 a ((v4.getD a 0 + (v4.getD b 0 + y) % 4294967296) % 4294967296)).drew
  have hs5 := (hs4.setCell ⟨g, a, none⟩ (.int .u32 ((((v4.getD a 0 + (v4.getD b 0 + y) % 4294967296) % 4294967296) : Nat) : Int)) (fun _ => rfl)).drew
  have hv5 := hv4.st1 a b y
  clear cp cq fp lp lq
  generalize (W4.setCell ⟨g, a, none⟩ (.int .u32 ((((v4.getD a 0 + (v4.getD b 0 + y) % 4294967296) % 4294967296) : Nat) : Int))).drew = W5 at *
  generalize he5 : st1 v4 a b y = v5 at *
  have He5 := Lib.hid he5
  clear he5 hb4 hs4 hv4
  have cp := okv_cell hv5 hb5 hd
  have cq := okv_cell hv5 hb5 ha
  have fp := hb5.free d
  have lp := hv5.get d
  have lq := hv5.get a
  generalize hPv : v5.getD d 0 = Pv at cp lp
  generalize hQv : v5.getD a 0 = Qv at cq lq
  have hxr := u32_xor_nat _ _ lp lq
  have hrt := fun W => w_rot8 (Pv ^^^ Qv) (xor_lt32 lp lq) W
  rw [← hxr] at hrt
  clear hxr
  go_wp2_with fail
  refine wp_region_still_tail 10 (by kernel_rfl) (by kernel_rfl) ?_
  simp only [List.take_succ_cons, List.take_zero, List.drop_succ_cons, List.drop_zero]
  repeat still_step
  still_call ((hrt _).mono (by rintro e w' ⟨rfl, rfl⟩; exact ⟨rfl, rfl⟩))
  repeat still_step
  try refine wpStill_nil ?_
  change wpList _ _ _ _ _ W5.drew
  go_wp2_with fail
  subst hPv hQv
  have hb6 : BoxAt (W5.setCell ⟨g, d, none⟩ (.int .u32 (((rotr (v5.getD d 0 ^^^ v5.getD a 0) 8) : Nat) : Int))).drew g 213 ((st2 v5 d a 8).map U) := (box_set hb5 d (rotr (v5.getD d 0 ^^^ v5.getD a 0) 8)).drew
  have hs6 := (hs5.setCell ⟨g, d, none⟩ (.int .u32 (((rotr (v5.getD d 0 ^^^ v5.getD a 0) 8) : Nat) : Int)) (fun _ => rfl)).drew
  have hv6 := hv5.st2 d a 8
  clear cp cq fp lp lq hrt
  generalize (W5.setCell ⟨g, d, none⟩ (.int .u32 (((rotr (v5.getD d 0 ^^^ v5.getD a 0) 8) : Nat) : Int))).drew = W6 at *
  generalize he6 : st2 v5 d a 8 = v6 at *
  have He6 := Lib.hid he6
  clear he6 hb5 hs5 hv5
  have cp := okv_cell hv6 hb6 hc
  have cq := okv_cell hv6 hb6 hd
  have fp := hb6.free c
  have lp := hv6.get c
  have lq := hv6.get d
  generalize hPv : v6.getD c 0 = Pv at cp lp
  generalize hQv : v6.getD d 0 = Qv at cq lq
  go_wp2_with fail
  refine wp_region_still_tail 8 (by kernel_rfl) (by kernel_rfl) ?_
  simp only [List.take_succ_cons, List.take_zero, List.drop_succ_cons, List.drop_zero]
  repeat still_step
  try refine wpStill_nil ?_
  change wpList _ _ _ _ _ W6.drew
  go_wp2_with fail
  have hE : ((Pv : Nat) + (Qv : Nat) : Int) % 4294967296 = ((((Pv + Qv) % 4294967296) : Nat) : Int) := by omega
  rw [hE]
  clear hE
  subst hPv hQv
  have hb7 : BoxAt (W6.setCell ⟨g, c, none⟩ (.int .u32 ((((v6.getD c 0 + v6.getD d 0) % 4294967296) : Nat) : Int))).drew g 213 ((st3 v6 c d).map U) := (box_set hb6 c ((v6.getD c 0 + v6.getD d 0) % 4294967296)).drew
  have hs7 := (hs6.setCell ⟨g, c, none⟩ (.int .u32 ((((v6.getD c 0 + v6.getD d 0) % 4294967296) : Nat) : Int)) (fun _ => rfl)).drew
  have hv7 := hv6.st3 c d
  clear cp cq fp lp lq
  generalize (W6.setCell ⟨g, c, none⟩ (.int .u32 ((((v6.getD c 0 + v6.getD d 0) % 4294967296) : Nat) : Int))).drew = W7 at *
  generalize he7 : st3 v6 c d = v7 at *
  have He7 := Lib.hid he7
  clear he7 hb6 hs6 hv6
  have cp := okv_cell hv7 hb7 hb
  have cq := okv_cell hv7 hb7 hc
  have fp := hb7.free b
  have lp := hv7.get b
  have lq := hv7.get c
  generalize hPv : v7.getD b 0 = Pv at cp lp
  generalize hQv : v7.getD c 0 = Qv at cq lq
  have hxr := u32_xor_nat _ _ lp lq
  have hrt := fun W => w_rot7 (Pv ^^^ Qv) (xor_lt32 lp lq) W
  rw [← hxr] at hrt
  clear hxr
  go_wp2_with fail
  refine wp_region_still_tail 10 (by kernel_rfl) (by kernel_rfl) ?_
  simp only [List.take_succ_cons, List.take_zero, List.drop_succ_cons, List.drop_zero]
  repeat still_step
  still_call ((hrt _).mono (by rintro e w' ⟨rfl, rfl⟩; exact ⟨rfl, rfl⟩))
  repeat still_step
  try refine wpStill_nil ?_
  change wpList _ _ _ _ _ W7.drew
  go_wp2_with fail
  subst hPv hQv
  have hb8 : BoxAt (W7.setCell ⟨g, b, none⟩ (.int .u32 (((rotr (v7.getD b 0 ^^^ v7.getD c 0) 7) : Nat) : Int))).drew g 213 ((st2 v7 b c 7).map U) := (box_set hb7 b (rotr (v7.getD b 0 ^^^ v7.getD c 0) 7)).drew
  have hs8 := (hs7.setCell ⟨g, b, none⟩ (.int .u32 (((rotr (v7.getD b 0 ^^^ v7.getD c 0) 7) : Nat) : Int)) (fun _ => rfl)).drew
  have hv8 := hv7.st2 b c 7
  clear cp cq fp lp lq hrt
  generalize (W7.setCell ⟨g, b, none⟩ (.int .u32 (((rotr (v7.getD b 0 ^^^ v7.getD c 0) 7) : Nat) : Int))).drew = W8 at *
  generalize he8 : st2 v7 b c 7 = v8 at *
  have He8 := Lib.hid he8
  clear he8 hb7 hs7 hv7
  go_end0
  have hm : v8 = mixV v a b c d x y := by rw [← He8.out, ← He7.out, ← He6.out, ← He5.out, ← He4.out, ← He3.out, ← He2.out, ← He1.out]; rfl
  rw [← hm]
  exact ⟨rfl, hb8, hs8⟩
end Go.Proofs.YtemjoiaapfhenaaGreatDoor
end

/- WDgR -/
section
namespace Go.Proofs.YtemjoiaapfhenaaGreatDoor
open Go.RowKit Go.Larder
set_option linter.unusedVariables false
set_option linter.unusedSimpArgs false
theorem turn_or {x k s : Nat} (hx : x < 4294967296) (hk : 32 - k = s) : bits .or .u32 ((x : Int) / 2 ^ k) ((x : Int) * 2 ^ s % 4294967296) = ((rotr x k : Nat) : Int) := by
  subst hk
  have h1 : x / 2 ^ k < 4294967296 := Nat.lt_of_le_of_lt (Nat.div_le_self _ _) hx
  have e1 : ((x : Int) * 2 ^ (32 - k) % 4294967296) = ((x * 2 ^ (32 - k) % 4294967296 : Nat) : Int) := by rw [Int.natCast_emod, Int.natCast_mul, Int.natCast_pow]; rfl
  have e2 : ((x : Int) / 2 ^ k) = ((x / 2 ^ k : Nat) : Int) := by rw [Int.natCast_ediv, Int.natCast_pow]; rfl
  rw [e1, e2, u32_or_nat _ _ h1 (Nat.mod_lt _ (by omega))]
  rfl
theorem w_turn16 (x : Nat) (hx : x < 4294967296) (w : World) : Calls Tryz.prog 100 #[.int .u32 x, .int .i64 16] w fun e w' => e = .returned (.int .u32 (rotr x 16 : Nat)) ∧ Below w.heap.size w w' := by
  have e : IntKind.i64.wrap (32 - 16) = 16 := by decide
  have e2 : IntKind.i64.wrap 16 = 16 := by decide
  go_enter Tryz.func100, Tryz.ntmps100
  go_wp2_with fail
  refine wp_region_still_tail 8 (by kernel_rfl) (by kernel_rfl) ?_
  simp only [List.take_succ_cons, List.take_zero, List.drop_succ_cons, List.drop_zero]
  repeat still_step
  try refine wpStill_nil ?_
  change wpList _ _ _ _ _ w.drew
  go_wp2_with fail
  go_ret
  exact ⟨ret_int (turn_or (k := 16) (s := 16) hx rfl), (Below.refl _ _).drew⟩
theorem w_turn12 (x : Nat) (hx : x < 4294967296) (w : World) : Calls Tryz.prog 100 #[.int .u32 x, .int .i64 12] w fun e w' => e = .returned (.int .u32 (rotr x 12 : Nat)) ∧ Below w.heap.size w w' := by
  have e : IntKind.i64.wrap (32 - 12) = 20 := by decide
  have e2 : IntKind.i64.wrap 20 = 20 := by decide
  go_enter Tryz.func100, Tryz.ntmps100
  go_wp2_with fail
  refine wp_region_still_tail 8 (by kernel_rfl) (by kernel_rfl) ?_
  simp only [List.take_succ_cons, List.take_zero, List.drop_succ_cons, List.drop_zero]
  repeat still_step
  try refine wpStill_nil ?_
  change wpList _ _ _ _ _ w.drew
  go_wp2_with fail
  go_ret
  exact ⟨ret_int (turn_or (k := 12) (s := 20) hx rfl), (Below.refl _ _).drew⟩
theorem w_turn8 (x : Nat) (hx : x < 4294967296) (w : World) : Calls Tryz.prog 100 #[.int .u32 x, .int .i64 8] w fun e w' => e = .returned (.int .u32 (rotr x 8 : Nat)) ∧ Below w.heap.size w w' := by
  have e : IntKind.i64.wrap (32 - 8) = 24 := by decide
  have e2 : IntKind.i64.wrap 24 = 24 := by decide
  go_enter Tryz.func100, Tryz.ntmps100
  go_wp2_with fail
  refine wp_region_still_tail 8 (by kernel_rfl) (by kernel_rfl) ?_
  simp only [List.take_succ_cons, List.take_zero, List.drop_succ_cons, List.drop_zero]
  repeat still_step
  try refine wpStill_nil ?_
  change wpList _ _ _ _ _ w.drew
  go_wp2_with fail
  go_ret
  exact ⟨ret_int (turn_or (k := 8) (s := 24) hx rfl), (Below.refl _ _).drew⟩
theorem w_turn7 (x : Nat) (hx : x < 4294967296) (w : World) : Calls Tryz.prog 100 #[.int .u32 x, .int .i64 7] w fun e w' => e = .returned (.int .u32 (rotr x 7 : Nat)) ∧ Below w.heap.size w w' := by
  have e : IntKind.i64.wrap (32 - 7) = 25 := by decide
  have e2 : IntKind.i64.wrap 25 = 25 := by decide
  go_enter Tryz.func100, Tryz.ntmps100
  go_wp2_with fail
  refine wp_region_still_tail 8 (by kernel_rfl) (by kernel_rfl) ?_
  simp only [List.take_succ_cons, List.take_zero, List.drop_succ_cons, List.drop_zero]
  repeat still_step
  try refine wpStill_nil ?_
  change wpList _ _ _ _ _ w.drew
  go_wp2_with fail
  go_ret
  exact ⟨ret_int (turn_or (k := 7) (s := 25) hx rfl), (Below.refl _ _).drew⟩
end Go.Proofs.YtemjoiaapfhenaaGreatDoor
end
