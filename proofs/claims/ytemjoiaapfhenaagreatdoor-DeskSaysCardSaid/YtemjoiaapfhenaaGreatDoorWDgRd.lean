/- Walk: the reference's Digest: a round of the lines. -/
import Derived.Test.YtemjoiaapfhenaaGreatDoorGd03
import Derived.Test.YtemjoiaapfhenaaGreatDoorGd00
import Derived.Test.YtemjoiaapfhenaaGreatDoorGd02
import Derived.Deep.DeepCutAuto
import Derived.StillTailTactics
import Derived.Outline
namespace Go.Proofs.YtemjoiaapfhenaaGreatDoor
open Go.RowKit Go.Larder
set_option linter.unusedVariables false
set_option linter.unusedSimpArgs false
/-- a part of a code -/
def kidC : Code → Nat → Code
  | .loop b, _ => b
  | .seq a _, 0 => a
  | .seq _ b, _ => b
  | .cond _ a _, 0 => a
  | .cond _ _ b, _ => b
  | .block _ b, _ => b
  | .scope b, _ => b
  | c, _ => c
/-- the round of the lines -/
theorem wp_no_else {P : Program} {c : Code} {Q : Exit → Act → World → Prop} {a : Act} {w : World} (h : ∀ K : Act → World → Prop, (∀ a w, Q .normal a w → K a w) → c.wp P (Exit.then K (fun _ _ _ => False)) a w) : c.wp P Q a w :=
  wp_mono (h (fun a w => Q .normal a w) fun _ _ h => h) fun e a w h => by cases e <;> first | exact h | exact h.elim
noncomputable def rBody : Code := [1, 1, 1, 1, 1, 1, 0, 1, 0, 0, 0, 0, 1, 1, 1, 1, 1, 1, 1, 1, 1, 0, 1, 0, 0].foldl kidC ((Tryz.f32).body.getD .skip)
set_option maxHeartbeats 40000000 in
set_option maxRecDepth 100000 in
theorem w_DigLine (cd : Code) (hcd : cd = rBody) (blk : List UInt8) (V : List Nat) (gv gb gs c5 r : Nat) (wd wq : World) (Hpl : Hid ((padB blk).length = 64)) (bb2 : BoxAt wd gb 9 [S (padB blk)]) (hsg2 : OwnL encS wd gs 9 (some ⟨gs, 0, none⟩) 10 sgL)
    (v : List Nat) (hlt3 : r < 10) (hvo : OkV 16 v) (hgo3 : Hid (allGo (padB blk) (sigN.drop r) v = V)) (hv : RowU wq wd.heap.size gv c5 v) (hB3 : Below wd.heap.size wd wq)
    (x0 x1 x2 x3 x4 x5 x6 x7 x8 x9 x10 x11 x14 x15 x16 x17 x18 x19 x20 x21 x22 x23 x24 x25 x26 x27 x28 x29 x30 x31 x32 x33 x34 x35 x36 x37 x38 x39 x40 x41 x42 x43 x44 x45 x46 x47 x48 x49 x50 x51 x52 x53 x54 x55 x56 x57 x58 x59 x60 x61 x62 x63 x64 x65 x66 x67 x68 x69 x70 x71 x72 x73 x74 x75 x76 x77 x78 x79 x80 x81 x82 x83 x84 x85 x86 x87 x88 x89 x90 x91 x92 x93 x94 x95 x96 x97 x98 x99 x100 x104 x105 x106 x107 x108 x109 x110 x111 x112 x113 x114 x115 x116 x117 x118 x119 x120 x121 x122 x123 x124 x125 x126 x127 x128 x129 x130 x131 x132 x133 x134 x135 x136 x137 x138 x139 x140 x141 x142 x143 x144 x145 x146 x147 x148 x149 x150 x151 x152 x153 x154 x155 x156 x157 x158 x159 x160 x161 x162 x163 x164 x165 x166 x167 x168 x169 x170 x171 x172 x173 x174 x175 x176 x177 x178 x179 x180 x181 x182 x183 x184 x185 x186 x187 x188 x189 x190 x191 x192 x193 x194 x195 x196 x197 x198 x199 x200 x201 x202 x203 x204 x205 x206 x207 x208 x209 x210 x211 x212 x213 x214 x215 x216 x217 x218 x219 x220 x221 x222 x223 x224 x225 x226 x227 x228 x229 x230 x231 x232 x233 x234 x235 x236 x237 x238 x239 x240 x241 x242 x243 : Value) (K : Act → World → Prop)
    (hQ : ∀ (y15 y16 y17 y18 y19 y20 y21 y22 y104 y105 y106 y107 y108 y109 y110 y111 y112 y113 y114 y115 y116 y117 y118 y119 y120 y121 y122 y123 y124 y125 y126 y127 y128 y129 y130 y131 y132 y133 y134 y135 y136 y137 y138 y139 y140 y141 y142 y143 y144 y145 y146 y147 y148 y149 y150 y151 y152 y153 y154 y155 y156 y157 y158 y159 y160 y161 y162 y163 y164 y165 y166 y167 y168 y169 y170 y171 y172 y173 y174 y175 y176 y177 y178 y179 y180 y181 y182 y183 y184 y185 y186 y187 y188 y189 y190 y191 y192 y193 y194 y195 y196 y197 y198 y199 y200 y201 : Value) (w' : World) (v4 : List Nat), OkV 16 v4 → Hid (allGo (padB blk) (sigN.drop (r + 1)) v4 = V) → RowU w' wd.heap.size gv c5 v4 → Below wd.heap.size wd w' → K { tmps := #[x0, x1, x2, x3, x4, x5, x6, x7, x8, x9, x10, x11, .slice (some ⟨gv, 0, none⟩) 16 c5, .func (.func 98) #[] #[.pointer (some ⟨gb, 0, none⟩)], x14, y15, y16, y17, y18, y19, y20, y21, y22, x23, x24, x25, x26, x27, x28, x29, x30, x31, x32, x33, x34, x35, x36, x37, x38, x39, x40, x41, x42, x43, x44, x45, x46, x47, x48, x49, x50, x51, x52, x53, x54, x55, x56, x57, x58, x59, x60, x61, x62, x63, x64, x65, x66, x67, x68, x69, x70, x71, x72, x73, x74, x75, x76, x77, x78, x79, x80, x81, x82, x83, x84, x85, x86, x87, x88, x89, x90, x91, x92, x93, x94, x95, x96, x97, x98, x99, x100, .slice (some ⟨gs, 0, none⟩) 10 10, .int .i64 10, .int .i64 ((r : Int) + 1), y104, y105, y106, y107, y108, y109, y110, y111, y112, y113, y114, y115, y116, y117, y118, y119, y120, y121, y122, y123, y124, y125, y126, y127, y128, y129, y130, y131, y132, y133, y134, y135, y136, y137, y138, y139, y140, y141, y142, y143, y144, y145, y146, y147, y148, y149, y150, y151, y152, y153, y154, y155, y156, y157, y158, y159, y160, y161, y162, y163, y164, y165, y166, y167, y168, y169, y170, y171, y172, y173, y174, y175, y176, y177, y178, y179, y180, y181, y182, y183, y184, y185, y186, y187, y188, y189, y190, y191, y192, y193, y194, y195, y196, y197, y198, y199, y200, y201, x202, x203, x204, x205, x206, x207, x208, x209, x210, x211, x212, x213, x214, x215, x216, x217, x218, x219, x220, x221, x222, x223, x224, x225, x226, x227, x228, x229, x230, x231, x232, x233, x234, x235, x236, x237, x238, x239, x240, x241, x242, x243], defers := [] } w') :
    Code.wp Tryz.prog cd (Exit.then K (fun _ _ _ => False)) { tmps := #[x0, x1, x2, x3, x4, x5, x6, x7, x8, x9, x10, x11, .slice (some ⟨gv, 0, none⟩) 16 c5, .func (.func 98) #[] #[.pointer (some ⟨gb, 0, none⟩)], x14, x15, x16, x17, x18, x19, x20, x21, x22, x23, x24, x25, x26, x27, x28, x29, x30, x31, x32, x33, x34, x35, x36, x37, x38, x39, x40, x41, x42, x43, x44, x45, x46, x47, x48, x49, x50, x51, x52, x53, x54, x55, x56, x57, x58, x59, x60, x61, x62, x63, x64, x65, x66, x67, x68, x69, x70, x71, x72, x73, x74, x75, x76, x77, x78, x79, x80, x81, x82, x83, x84, x85, x86, x87, x88, x89, x90, x91, x92, x93, x94, x95, x96, x97, x98, x99, x100, .slice (some ⟨gs, 0, none⟩) 10 10, .int .i64 10, .int .i64 (r : Int), x104, x105, x106, x107, x108, x109, x110, x111, x112, x113, x114, x115, x116, x117, x118, x119, x120, x121, x122, x123, x124, x125, x126, x127, x128, x129, x130, x131, x132, x133, x134, x135, x136, x137, x138, x139, x140, x141, x142, x143, x144, x145, x146, x147, x148, x149, x150, x151, x152, x153, x154, x155, x156, x157, x158, x159, x160, x161, x162, x163, x164, x165, x166, x167, x168, x169, x170, x171, x172, x173, x174, x175, x176, x177, x178, x179, x180, x181, x182, x183, x184, x185, x186, x187, x188, x189, x190, x191, x192, x193, x194, x195, x196, x197, x198, x199, x200, x201, x202, x203, x204, x205, x206, x207, x208, x209, x210, x211, x212, x213, x214, x215, x216, x217, x218, x219, x220, x221, x222, x223, x224, x225, x226, x227, x228, x229, x230, x231, x232, x233, x234, x235, x236, x237, x238, x239, x240, x241, x242, x243], defers := [] } wq := by
  have hgbd := bb2.lt
  let Qb : Exit → Act → World → Prop := bodyPost Tryz.prog Tryz.f32 (fun _ _ => False)
  simp only [rBody, List.foldl_cons, List.foldl_nil, Tryz.f32, Option.getD_some, kidC] at hcd
  subst hcd
  obtain ⟨l, hl, hd⟩ := drop_step (l := sigN) (show r < sigN.length from hlt3)
  have hlk := sig_ok l (List.mem_of_getElem? hl)
  have hline : wq.cell? ⟨gs, r, none⟩ = some (S (l.map hexc)) := OwnS.cell (hsg2.below hB3 (Nat.le_refl _)) (by unfold sgL; rw [List.getElem?_map, hl]; rfl)
  have Hg3 := Lib.hid (show allGo (padB blk) (sigN.drop (r + 1)) (lineGo (padB blk) l 8 0 v) = V from by have h0 := hgo3.out; rw [hd] at h0; exact h0)
  obtain ⟨VL, hVL⟩ : ∃ VL, lineGo (padB blk) l 8 0 v = VL := ⟨_, rfl⟩
  have HVL := Lib.hid hVL
  have hVLo : OkV 16 VL := by rw [← hVL]; exact hvo.lineGo _ _ _ _
  rw [hVL] at Hg3
  clear hVL hl hd hgo3
  have Hlk := Lib.hid hlk
  clear hlk
  obtain ⟨line, hln⟩ : ∃ line, l.map hexc = line := ⟨_, rfl⟩
  rw [hln] at hline
  have Hln := Lib.hid hln
  clear hln
  have hrI : (r : Int) < 10 := by omega
  go_wp2_with fail
  go_loopw [107] (fun i' wr => ∃ (i : Nat) (v : List Nat), i' = .int .i64 i ∧ i ≤ 8 ∧ OkV 16 v ∧ Hid (lineGo (padB blk) l (8 - i) i v = VL) ∧ RowU wr wd.heap.size gv c5 v ∧ Below wd.heap.size wd wr) (fun i' _ => 8 - (intOf i').toNat)
  case atStart => exact ⟨0, v, rfl, by omega, hvo, HVL, hv, hB3⟩
  case round =>
    clear HVL hv hB3 hline hvo
    obtain ⟨i, v4, rfl, hi8, hvo, hgo4, hv, hB4⟩ := hrel
    obtain ⟨wz, hwz⟩ : ∃ wz, wz = wr := ⟨_, rfl⟩
    subst hwz
    by_cases hlt4 : i < 8
    · obtain ⟨x0, hx0⟩ : ∃ x0, l.getD (2 * i) 0 = x0 := ⟨_, rfl⟩
      obtain ⟨x1, hx1⟩ : ∃ x1, l.getD (2 * i + 1) 0 = x1 := ⟨_, rfl⟩
      have hl16 := Hlk.out.1
      have hL0 : line[2 * i]? = some (hexc x0) := by rw [← Hln.out, List.getElem?_map, ← hx0, List.getD_eq_getElem?_getD, List.getElem?_eq_getElem (by omega)]; rfl
      have hL1 : line[2 * i + 1]? = some (hexc x1) := by rw [← Hln.out, List.getElem?_map, ← hx1, List.getD_eq_getElem?_getD, List.getElem?_eq_getElem (by omega)]; rfl
      have hx0l : x0 < 16 := by rw [← hx0, List.getD_eq_getElem?_getD, List.getElem?_eq_getElem (by omega)]; exact Hlk.out.2 _ (List.getElem_mem _)
      have hx1l : x1 < 16 := by rw [← hx1, List.getD_eq_getElem?_getD, List.getElem?_eq_getElem (by omega)]; exact Hlk.out.2 _ (List.getElem_mem _)
      have Hgo4 := Lib.hid (show lineGo (padB blk) l (8 - (i + 1)) (i + 1) (mixV v4 (plA i) (plB i) (Go.Larder.plC i) (plD i) (Go.Larder.wd (padB blk) x0) (Go.Larder.wd (padB blk) x1)) = VL from by
        have h0 := hgo4.out
        rw [show 8 - i = (8 - (i + 1)) + 1 from by omega] at h0
        rw [← hx0, ← hx1]
        exact h0)
      clear hx0 hx1 hl16 hgo4
      have HL0 := Lib.hid hL0
      have HL1 := Lib.hid hL1
      clear hL0 hL1
      go_upto_region 28 with fail
      go_cut [17, 18, 19, 20] (fun a' b' c' d' wx => a' = .int .i64 ((plA i : Nat) : Int) ∧ b' = .int .i64 ((plB i : Nat) : Int) ∧ c' = .int .i64 ((Go.Larder.plC i : Nat) : Int) ∧ d' = .int .i64 ((plD i : Nat) : Int) ∧ wz = wx)
      case first =>
        have hi0 : (0 : Int) ≤ (i : Int) := by omega
        have hi7 : (i : Int) ≤ 7 := by omega
        clear HL0 HL1 Hgo4 hv hB4
        go_wp2_with fail
        go_meet
        case rel => exact ⟨eqI (by unfold plA; omega), eqI (by unfold plB; omega), eqI (by unfold Go.Larder.plC; omega), eqI (by unfold plD; omega), rfl⟩
      case rest =>
        obtain ⟨rfl, rfl, rfl, rfl, rfl⟩ := hcut
        have hpa : plA i < 16 := by unfold plA; omega
        have hpb : plB i < 16 := by unfold plB; omega
        have hpc : Go.Larder.plC i < 16 := by unfold Go.Larder.plC; omega
        have hpd : plD i < 16 := by unfold plD; omega
        generalize plA i = pa at *
        generalize plB i = pb at *
        generalize Go.Larder.plC i = pc at *
        generalize plD i = pd at *
        have hwz : wd.heap.size ≤ wz.heap.size := hB4.size
        have bl := BoxAt.new wz [.int .i64 16, .int .i64 12, .int .i64 8, .int .i64 7] 105
        have hv5 := hv.alc (.cells #[.int .i64 16, .int .i64 12, .int .i64 8, .int .i64 7] 105)
        have hB5 := hB4.alloc hwz (.cells #[.int .i64 16, .int .i64 12, .int .i64 8, .int .i64 7] 105)
        go_wp2_with fail
        clear hv hB4
        generalize wz.alloc (.cells #[.int .i64 16, .int .i64 12, .int .i64 8, .int .i64 7] 105) = wy at *
        generalize wz.heap.size = gl at *
        go_loopw [136] (fun k' wr => ∃ (k : Nat), k' = .int .i64 k ∧ k ≤ 2 ∧ RowU wr wd.heap.size gv c5 (hvG v4 pa pb pc pd (Go.Larder.wd (padB blk) x0) (Go.Larder.wd (padB blk) x1) k) ∧ BoxAt wr gl 105 [.int .i64 16, .int .i64 12, .int .i64 8, .int .i64 7] ∧ Below wd.heap.size wd wr) (fun k' _ => 2 - (intOf k').toNat)
        case atStart => exact ⟨0, rfl, by omega, hv5, bl, hB5⟩
        case round =>
          clear hv5 bl hB5
          obtain ⟨k, rfl, hk2, hv, bl, hB5⟩ := hrel
          obtain ⟨wy2, hwy2⟩ : ∃ wy2, wy2 = wr := ⟨_, rfl⟩
          subst hwy2
          have hvo5 := hvG_ok hvo pa pb pc pd (Go.Larder.wd (padB blk) x0) (Go.Larder.wd (padB blk) x1) k
          by_cases hlt5 : k < 2
          · obtain ⟨r1, r2, hR1, hR2, hH, ht1, ht2⟩ := selD k hlt5 v4 pa pb pc pd (Go.Larder.wd (padB blk) x0) (Go.Larder.wd (padB blk) x1)
            obtain ⟨xk, hxk⟩ : ∃ xk, (if k = 0 then x0 else x1) = xk := ⟨_, rfl⟩
            have hxkl : xk < 16 := by rw [← hxk]; split; exact hx0l; exact hx1l
            have hLk : line[2 * i + k]? = some (hexc xk) := by
              rw [← hxk]
              match k, hlt5 with
              | 0, _ => exact HL0.out
              | 1, _ => exact HL1.out
            have hyk : (if k = 0 then (Go.Larder.wd (padB blk) x0) else (Go.Larder.wd (padB blk) x1)) = Go.Larder.wd (padB blk) xk := by rw [← hxk]; split <;> rfl
            rw [hyk] at hH
            have HH := Lib.hid hH
            have hykl := wd_lt (padB blk) xk
            have hwdC : ∀ W, W.cell? ⟨gb, 0, none⟩ = some (S (padB blk)) → Calls Tryz.prog 98 #[S line, .int .i64 (2 * (i : Int) + (k : Int)), .pointer (some ⟨gb, 0, none⟩)] W fun e w' => e = .returned (.int .u32 ((Go.Larder.wd (padB blk) xk : Nat) : Int)) ∧ Below W.heap.size W w' := fun W hW => by
              have h0 := w_word line (padB blk) (2 * i + k) xk gb hLk hxkl Hpl.out W hW
              rw [show ((2 * i + k : Nat) : Int) = 2 * (i : Int) + (k : Int) from by omega] at h0
              exact h0
            have Hyk := Lib.hid hykl
            generalize Go.Larder.wd (padB blk) xk = yk at *
            clear hxk hLk hH hyk
            obtain ⟨v5, hv5⟩ : ∃ v5, hvG v4 pa pb pc pd (Go.Larder.wd (padB blk) x0) (Go.Larder.wd (padB blk) x1) k = v5 := ⟨_, rfl⟩
            rw [hv5] at HH hv hvo5
            clear hv5
            have q1 : wy2.cell? ⟨gl, k * 2, none⟩ = some (.int .i64 (r1 : Int)) := bl.cell hR1
            have q2 : wy2.cell? ⟨gl, k * 2 + 1, none⟩ = some (.int .i64 (r2 : Int)) := bl.cell hR2
            have hk0 : (0 : Int) ≤ (k : Int) := Int.natCast_nonneg _
            have hk2I : (k : Int) < 2 := Int.ofNat_lt.2 hlt5
            have hwy : wd.heap.size ≤ wy2.heap.size := hB5.size
            have bby := BoxAt.new wy2 [.int .i64 (r1 : Int), .int .i64 (r2 : Int)] 105
            have hv6 := hv.alc (.cells #[.int .i64 (r1 : Int), .int .i64 (r2 : Int)] 105)
            have bl6 := bl.alloc (.cells #[.int .i64 (r1 : Int), .int .i64 (r2 : Int)] 105)
            have hB6 := hB5.alloc hwy (.cells #[.int .i64 (r1 : Int), .int .i64 (r2 : Int)] 105)
            clear hR1 hR2
            have HwdC := Lib.hid hwdC
            clear hwdC
            have Ht1 := Lib.hid ht1
            have Ht2 := Lib.hid ht2
            clear ht1 ht2
            have Hbb2 := Lib.hid bb2
            have Hsg2 := Lib.hid hsg2
            clear bb2 hsg2
            go_upto_region 32 with fail
            clear q1 q2 hv bl hB5
            generalize wy2.alloc (.cells #[.int .i64 (r1 : Int), .int .i64 (r2 : Int)] 105) = wk at *
            generalize wy2.heap.size = gy at *
            have hgvd : gv ≠ gy := rowU_ne hv6 bby
            have hgld : gv ≠ gl := rowU_ne hv6 bl6
            have hgv6 := (RowU.lt hv6 (by rw [hvo5.len]; decide)).1
            have hpaI : (0 : Int) ≤ (pa : Int) := Int.natCast_nonneg _
            have hpbI : (0 : Int) ≤ (pb : Int) := Int.natCast_nonneg _
            have hpcI : (0 : Int) ≤ (pc : Int) := Int.natCast_nonneg _
            have hpdI : (0 : Int) ≤ (pd : Int) := Int.natCast_nonneg _
            have hpaJ : (pa : Int) < 16 := Int.ofNat_lt.2 hpa
            have hpbJ : (pb : Int) < 16 := Int.ofNat_lt.2 hpb
            have hpcJ : (pc : Int) < 16 := Int.ofNat_lt.2 hpc
            have hpdJ : (pd : Int) < 16 := Int.ofNat_lt.2 hpd
            go_cut [] (fun wx => RowU wx wd.heap.size gv c5 (st1 v5 pa pb yk) ∧ SameBut (fun j => j = gv) wk wx)
            case first =>
              obtain ⟨qa, qb, q1, q2, hat, hbt, e1, e1', e2, e2', l1, l2, hst⟩ := mix1 hvo5 yk hpa hpb
              have Hst := Lib.hid hst
              clear hst
              have ca := RowU.cell hv6 hat
              have cb := RowU.cell hv6 hbt
              have Hat := Lib.hid hat
              have Hbt := Lib.hid hbt
              clear hat hbt
              have w1 := dbl_i hlt4
              have w2 := dbl_ik hlt4 hlt5
              have hcb : wk.drew.cell? ⟨gb, 0, none⟩ = some (S (padB blk)) := (Hbb2.out.kept hB6.drew hgbd).cell (j := 0) rfl
              have hcall := HwdC.out wk.drew hcb
              clear HL0 HL1 Hgo4 hcb HH HwdC Ht1 Ht2 Hbb2 Hsg2
              go_region_with (go_at_call 98; (with_reducible refine Calls.mono hcall ?_); rintro e w5 ⟨rfl, hb5⟩; have hv7 := (OwnL.drw hv6).below hb5 (Nat.le_refl _); have ca5 := RowU.cell hv7 Hat.out; have cb5 := RowU.cell hv7 Hbt.out; have fa5 := RowU.free hv7 pa)
              all_goals
                have hfin := RowU.set hv7 pa q2
                have hsb : SameBut (fun j => j = gv) wk (w5.setCell ⟨gv, pa, none⟩ (.int .u32 (q2 : Int))) := (((SameBut.refl wk).drew).keep hb5).setCell ⟨gv, pa, none⟩ _ (fun _ => rfl)
                clear ca cb ca5 cb5 fa5 hv7
                go_wp2_with fail
                go_meet
                case rel => exact ⟨by rw [Hst.out]; exact hfin, hsb⟩
            case rest =>
              obtain ⟨hv7, hs7⟩ := hcut
              obtain ⟨wl, hwl⟩ : ∃ wl, wl = wc := ⟨_, rfl⟩
              subst hwl
              have bby7 := hs7.box bby (Ne.symm hgvd)
              have bl7 := hs7.box bl6 (Ne.symm hgld)
              have hB7 := hB6.trans (hs7.toBelow (N := wd.heap.size) hB6.size (fun j hj h => by omega))
              have hvo7 := hvo5.st1 pa pb yk
              have HH1 := Lib.hid (show hvG v4 pa pb pc pd (Go.Larder.wd (padB blk) x0) (Go.Larder.wd (padB blk) x1) (k + 1) = st2 (st3 (st2 (st1 v5 pa pb yk) pd pa r1) pc pd) pb pc r2 from HH.out)
              clear HH hv6 bl6 bby hB6 hs7 hvo5 HwdC
              generalize st1 v5 pa pb yk = v6 at *
              go_upto_region 33 with fail
              go_cut [] (fun wx => RowU wx wd.heap.size gv c5 (st2 v6 pd pa r1) ∧ SameBut (fun j => j = gv) wl wx)
              case first =>
                obtain ⟨qd, qa, qx, q2, hdt, hat, hx1, lx, hrt, hst⟩ := mix2 hvo7 r1 hpd hpa
                have Hst := Lib.hid hst
                have ca := RowU.cell hv7 hat
                have cd := RowU.cell hv7 hdt
                have Hdt := Lib.hid hdt
                have hcall := Ht1.out qx wl.drew lx
                rw [hrt] at hcall
                clear hst hat hdt hrt
                have qy0 := bby7.cell (j := 0) rfl
                have qy1 := bby7.cell (j := 1) rfl
                clear HL0 HL1 Hgo4 HH1 Ht1 Ht2 Hbb2 Hsg2
                go_region_with (go_at_call 100; (with_reducible refine Calls.mono hcall ?_); rintro e w5 ⟨rfl, hb5⟩; have hv8 := (OwnL.drw hv7).below hb5 (Nat.le_refl _); have cd5 := RowU.cell hv8 Hdt.out; have fd5 := RowU.free hv8 pd)
                all_goals
                  have hfin := RowU.set hv8 pd q2
                  have hsb : SameBut (fun j => j = gv) wl (w5.setCell ⟨gv, pd, none⟩ (.int .u32 (q2 : Int))) := (((SameBut.refl wl).drew).keep hb5).setCell ⟨gv, pd, none⟩ _ (fun _ => rfl)
                  clear cd ca cd5 fd5 hv8
                  go_wp2_with fail
                  go_meet
                  case rel => exact ⟨by rw [Hst.out]; exact hfin, hsb⟩
              case rest =>
                obtain ⟨hv8, hs8c⟩ := hcut
                obtain ⟨wm, hwm⟩ : ∃ wm, wm = wc := ⟨_, rfl⟩
                subst hwm
                have bby8 := hs8c.box bby7 (Ne.symm hgvd)
                have bl8 := hs8c.box bl7 (Ne.symm hgld)
                have hB8 := hB7.trans (hs8c.toBelow (N := wd.heap.size) hB7.size (fun j hj h => by omega))
                have hvo8 := hvo7.st2 pd pa r1
                clear hv7 bl7 bby7 hB7 hs8c hvo7
                generalize st2 v6 pd pa r1 = v7 at *
                go_upto_region 34 with fail
                go_cut [] (fun wx => RowU wx wd.heap.size gv c5 (st3 v7 pc pd) ∧ SameBut (fun j => j = gv) wm wx)
                case first =>
                  obtain ⟨qc, qd, q2, hct, hdt, e1, e1', l2, hst⟩ := mix3 hvo8 hpc hpd
                  have Hst := Lib.hid hst
                  have cc := RowU.cell hv8 hct
                  have cd := RowU.cell hv8 hdt
                  have fc := RowU.free hv8 pc
                  have hfin := RowU.set hv8.drw pc q2
                  have hsb : SameBut (fun j => j = gv) wm (wm.drew.setCell ⟨gv, pc, none⟩ (.int .u32 (q2 : Int))) := ((SameBut.refl wm).drew).setCell ⟨gv, pc, none⟩ _ (fun _ => rfl)
                  clear hst hct hdt
                  clear HL0 HL1 Hgo4 HH1 Ht1 Ht2 Hbb2 Hsg2
                  refine wp_region_still_tail 10 (by kernel_rfl) (by kernel_rfl) ?_
                  simp only [List.take_succ_cons, List.take_zero, List.drop_succ_cons, List.drop_zero]
                  repeat still_step
                  try refine wpStill_nil ?_
                  change wpList _ _ _ _ _ wm.drew
                  go_wp2_with fail
                  go_meet
                  case rel => exact ⟨by rw [Hst.out]; exact hfin, hsb⟩
                case rest =>
                  obtain ⟨hv9, hs9c⟩ := hcut
                  obtain ⟨wn, hwn⟩ : ∃ wn, wn = wc := ⟨_, rfl⟩
                  subst hwn
                  have bby9 := hs9c.box bby8 (Ne.symm hgvd)
                  have bl9 := hs9c.box bl8 (Ne.symm hgld)
                  have hB9 := hB8.trans (hs9c.toBelow (N := wd.heap.size) hB8.size (fun j hj h => by omega))
                  have hvo9 := hvo8.st3 pc pd
                  clear hv8 bl8 bby8 hB8 hs9c hvo8
                  generalize st3 v7 pc pd = v8 at *
                  obtain ⟨qb, qc, qx, q2, hbt, hct, hx1, lx, hrt, hst⟩ := mix2 hvo9 r2 hpb hpc
                  have Hst := Lib.hid hst
                  have cb := RowU.cell hv9 hbt
                  have cc := RowU.cell hv9 hct
                  have Hbt := Lib.hid hbt
                  have hcall := Ht2.out qx wn.drew lx
                  rw [hrt] at hcall
                  clear hst hbt hct hrt
                  have qy0 := bby9.cell (j := 0) rfl
                  have qy1 := bby9.cell (j := 1) rfl
                  clear HL0 HL1 Ht1 Ht2 Hbb2 Hsg2
                  go_upto_region 35 with fail
                  go_region_with (go_at_call 100; (with_reducible refine Calls.mono hcall ?_); rintro e w5 ⟨rfl, hb5⟩; have hv10 := (OwnL.drw hv9).below hb5 (Nat.le_refl _); have cb5 := RowU.cell hv10 Hbt.out; have fb5 := RowU.free hv10 pb)
                  all_goals
                    have hfin := RowU.set hv10 pb q2
                    have hsb : SameBut (fun j => j = gv) wn (w5.setCell ⟨gv, pb, none⟩ (.int .u32 (q2 : Int))) := (((SameBut.refl wn).drew).keep hb5).setCell ⟨gv, pb, none⟩ _ (fun _ => rfl)
                    have bl10 := hsb.box bl9 (Ne.symm hgld)
                    have hB10 := hB9.trans (hsb.toBelow (N := wd.heap.size) hB9.size (fun j hj h => by omega))
                    rw [← Hst.out, ← HH1.out] at hfin
                    have Hfin := Lib.hid hfin
                    have Hbl10 := Lib.hid bl10
                    have HB10 := Lib.hid hB10
                    clear cb cc cb5 fb5 hv10 hsb hfin bl10 hB10 hv9 bl9 bby9 hB9
                    go_wp2_with fail
                    go_roundw
                    case rel => exact ⟨k + 1, by go_num, by omega, Hfin.out, Hbl10.out, HB10.out⟩
                    case measure => simp [intOf]; omega
          · obtain rfl : k = 2 := by omega
            have hv5 : RowU wy2 wd.heap.size gv c5 (mixV v4 pa pb pc pd (Go.Larder.wd (padB blk) x0) (Go.Larder.wd (padB blk) x1)) := hv
            go_wp2_with fail
            go_roundw
            case rel => exact ⟨i + 1, mixV v4 pa pb pc pd (Go.Larder.wd (padB blk) x0) (Go.Larder.wd (padB blk) x1), by go_num, by omega, hvo.mixV _ _ _ _ _ _, Hgo4, hv5, hB5⟩
            case measure => simp [intOf]; omega
    · obtain rfl : i = 8 := by omega
      have hVe : v4 = VL := hgo4.out
      subst hVe
      go_wp2_with fail
      exact hQ _ _ _ _ _ _ _ _ _ _ _ _ _ _ _ _ _ _ _ _ _ _ _ _ _ _ _ _ _ _ _ _ _ _ _ _ _ _ _ _ _ _ _ _ _ _ _ _ _ _ _ _ _ _ _ _ _ _ _ _ _ _ _ _ _ _ _ _ _ _ _ _ _ _ _ _ _ _ _ _ _ _ _ _ _ _ _ _ _ _ _ _ _ _ _ _ _ _ _ _ _ _ _ _ _ _ _ v4 hvo Hg3 hv hB4
noncomputable def rPad : Code := [1, 1, 1, 1, 1, 1, 0, 1, 0, 0, 0, 0, 1, 1, 1, 0].foldl kidC ((Tryz.f32).body.getD .skip)
set_option maxHeartbeats 40000000 in
set_option maxRecDepth 100000 in
theorem w_DigPad (cd : Code) (hcd : cd = rPad) (blk : List UInt8) (gb : Nat) (wb : World) (hbl64 : blk.length ≤ 64) (bb : BoxAt wb gb 9 [S blk]) (x0 x1 x2 x3 x4 x5 x6 x7 x8 x10 x11 x12 x13 x14 x15 x16 x17 x18 x19 x20 x21 x22 x23 x24 x25 x26 x27 x28 x29 x30 x31 x32 x33 x34 x35 x36 x37 x38 x39 x40 x41 x42 x43 x44 x45 x46 x47 x48 x49 x50 x51 x52 x53 x54 x55 x56 x57 x58 x59 x60 x61 x62 x63 x64 x65 x66 x67 x68 x69 x70 x71 x72 x73 x74 x75 x76 x77 x78 x79 x80 x81 x82 x83 x84 x85 x86 x87 x88 x89 x90 x91 x92 x93 x94 x95 x96 x97 x98 x99 x100 x101 x102 x103 x104 x105 x106 x107 x108 x109 x110 x111 x112 x113 x114 x115 x116 x117 x118 x119 x120 x121 x122 x123 x124 x125 x126 x127 x128 x129 x130 x131 x132 x133 x134 x135 x136 x137 x138 x139 x140 x141 x142 x143 x144 x145 x146 x147 x148 x149 x150 x151 x152 x153 x154 x155 x156 x157 x158 x159 x160 x161 x162 x163 x164 x165 x166 x167 x168 x169 x170 x171 x172 x173 x174 x175 x176 x177 x178 x179 x180 x181 x182 x183 x184 x185 x186 x187 x188 x189 x190 x191 x192 x193 x194 x195 x196 x197 x198 x199 x200 x201 x202 x203 x204 x205 x206 x207 x208 x209 x210 x211 x212 x213 x214 x215 x216 x217 x218 x219 x220 x221 x222 x223 x224 x225 x226 x227 x228 x229 x230 x231 x232 x233 x234 x235 x236 x237 x238 x239 x240 x241 x242 x243 : Value) (K : Act → World → Prop)
    (hQ : ∀ (y67 y68 y69 y70 y71 y72 y73 : Value) (w' : World), BoxAt w' gb 9 [S (padB blk)] → SameBut (fun j => j = gb) wb w' → K { tmps := #[x0, x1, x2, x3, x4, x5, x6, x7, x8, .pointer (some ⟨gb, 0, none⟩), x10, x11, x12, x13, x14, x15, x16, x17, x18, x19, x20, x21, x22, x23, x24, x25, x26, x27, x28, x29, x30, x31, x32, x33, x34, x35, x36, x37, x38, x39, x40, x41, x42, x43, x44, x45, x46, x47, x48, x49, x50, x51, x52, x53, x54, x55, x56, x57, x58, x59, x60, x61, x62, x63, x64, x65, x66, y67, y68, y69, y70, y71, y72, y73, x74, x75, x76, x77, x78, x79, x80, x81, x82, x83, x84, x85, x86, x87, x88, x89, x90, x91, x92, x93, x94, x95, x96, x97, x98, x99, x100, x101, x102, x103, x104, x105, x106, x107, x108, x109, x110, x111, x112, x113, x114, x115, x116, x117, x118, x119, x120, x121, x122, x123, x124, x125, x126, x127, x128, x129, x130, x131, x132, x133, x134, x135, x136, x137, x138, x139, x140, x141, x142, x143, x144, x145, x146, x147, x148, x149, x150, x151, x152, x153, x154, x155, x156, x157, x158, x159, x160, x161, x162, x163, x164, x165, x166, x167, x168, x169, x170, x171, x172, x173, x174, x175, x176, x177, x178, x179, x180, x181, x182, x183, x184, x185, x186, x187, x188, x189, x190, x191, x192, x193, x194, x195, x196, x197, x198, x199, x200, x201, x202, x203, x204, x205, x206, x207, x208, x209, x210, x211, x212, x213, x214, x215, x216, x217, x218, x219, x220, x221, x222, x223, x224, x225, x226, x227, x228, x229, x230, x231, x232, x233, x234, x235, x236, x237, x238, x239, x240, x241, x242, x243], defers := [] } w') :
    Code.wp Tryz.prog cd (Exit.then K (fun _ _ _ => False)) { tmps := #[x0, x1, x2, x3, x4, x5, x6, x7, x8, .pointer (some ⟨gb, 0, none⟩), x10, x11, x12, x13, x14, x15, x16, x17, x18, x19, x20, x21, x22, x23, x24, x25, x26, x27, x28, x29, x30, x31, x32, x33, x34, x35, x36, x37, x38, x39, x40, x41, x42, x43, x44, x45, x46, x47, x48, x49, x50, x51, x52, x53, x54, x55, x56, x57, x58, x59, x60, x61, x62, x63, x64, x65, x66, x67, x68, x69, x70, x71, x72, x73, x74, x75, x76, x77, x78, x79, x80, x81, x82, x83, x84, x85, x86, x87, x88, x89, x90, x91, x92, x93, x94, x95, x96, x97, x98, x99, x100, x101, x102, x103, x104, x105, x106, x107, x108, x109, x110, x111, x112, x113, x114, x115, x116, x117, x118, x119, x120, x121, x122, x123, x124, x125, x126, x127, x128, x129, x130, x131, x132, x133, x134, x135, x136, x137, x138, x139, x140, x141, x142, x143, x144, x145, x146, x147, x148, x149, x150, x151, x152, x153, x154, x155, x156, x157, x158, x159, x160, x161, x162, x163, x164, x165, x166, x167, x168, x169, x170, x171, x172, x173, x174, x175, x176, x177, x178, x179, x180, x181, x182, x183, x184, x185, x186, x187, x188, x189, x190, x191, x192, x193, x194, x195, x196, x197, x198, x199, x200, x201, x202, x203, x204, x205, x206, x207, x208, x209, x210, x211, x212, x213, x214, x215, x216, x217, x218, x219, x220, x221, x222, x223, x224, x225, x226, x227, x228, x229, x230, x231, x232, x233, x234, x235, x236, x237, x238, x239, x240, x241, x242, x243], defers := [] } wb := by
  have cb := bb.cell (j := 0) rfl
  simp only [rPad, List.foldl_cons, List.foldl_nil, Tryz.f32, Option.getD_some, kidC] at hcd
  subst hcd
  have hchr : Calls Tryz.prog 36 #[.int .i64 0] wb.drew fun e w' => e = .returned (S [0]) ∧ Below wb.drew.heap.size wb.drew w' := w_chrD 0 (by omega) wb.drew
  obtain ⟨z, hz⟩ : ∃ z, List.replicate (64 - blk.length) (0 : UInt8) = z := ⟨_, rfl⟩
  have hzl : z.length ≤ 64 := by rw [← hz, List.length_replicate]; omega
  have hrep := fun W => w_RepZ (64 - blk.length) (by omega) W
  rw [hz, show ((64 - blk.length : Nat) : Int) = 64 - (blk.length : Int) from by omega] at hrep
  have Hz := Lib.hid (show padB blk = blk ++ z from by rw [← hz]; rfl)
  clear hz
  have hw1 : IntKind.i64.wrap (64 - (blk.length : Int)) = 64 - (blk.length : Int) := by simp [IntKind.wrap, IntKind.bits, IntKind.signed]; omega
  have a1 : ∀ W, (Op.stringOp .add ⟨blk.toArray⟩ ⟨z.toArray⟩).run Tryz.prog W = .ok (.string ⟨(blk ++ z).toArray⟩) W := fun W => run_cat (P := Tryz.prog) blk z (by omega) (by omega) W
  go_region_with (first
    | (go_at_call 36; (with_reducible refine Calls.mono hchr ?_); rintro e w5 ⟨rfl, hb5⟩; have bx5 := bb.drew.keep hb5; have cb5 := bx5.cell (j := 0) rfl)
    | (go_at_call 97; (with_reducible refine Calls.mono (hrep w5) ?_); rintro e w6 ⟨rfl, hb6⟩; have bx6 := bx5.keep hb6; have cb6 := bx6.cell (j := 0) rfl; have fb6 := bx6.free 0))
  all_goals
    have hfin := (bx6.set 0 (S (blk ++ z)))
    have hsb : SameBut (fun j => j = gb) wb (w6.setCell ⟨gb, 0, none⟩ (S (blk ++ z))) := ((((SameBut.refl wb).drew).keep hb5).keep hb6).setCell ⟨gb, 0, none⟩ _ (fun _ => rfl)
    go_wp2_with fail
    exact hQ _ _ _ _ _ _ _ _ (by rw [Hz.out]; exact hfin) hsb
end Go.Proofs.YtemjoiaapfhenaaGreatDoor
