/- The calendar, in plain numbers: days before a year, days before a month, and that the closed formulas of package date agree with the count. No program in sight. -/
import Derived.Test.YthpckcfdgfdngaaDoorBase
namespace Go.Larder
set_option linter.unusedVariables false
set_option linter.unusedSimpArgs false

def lp (y : Int) : Bool := y % 400 == 0 || (!(y % 100 == 0) && y % 4 == 0)
def lpI (y : Int) : Int := if lp y then 1 else 0
theorem lpI_bd (y : Int) : 0 ≤ lpI y ∧ lpI y ≤ 1 := by unfold lpI; split <;> omega
theorem lp_eq (y : Int) : (y % 4 == 0 && (!(y % 100 == 0) || y % 400 == 0)) = lp y := by
  unfold lp
  rw [Bool.eq_iff_iff]
  simp
  omega

/-- Days ahead of a year. -/
def yd (y : Int) : Int := 365 * (y - 1970) + (y - 1) / 4 - (y - 1) / 100 + (y - 1) / 400 - 477
theorem yd_succ (y : Int) : yd (y + 1) = yd y + 365 + lpI y := by
  unfold yd lpI lp
  split
  · rename_i h; simp at h; omega
  · rename_i h; simp at h; omega
theorem yd_mono {a b : Int} (h : a ≤ b) : yd a ≤ yd b := by unfold yd; omega
theorem yd_step {a b : Int} (h : a < b) : yd a + 365 + lpI a ≤ yd b := by
  rw [← yd_succ]; exact yd_mono (by omega)

/-- Days of a month, months from 0 on. -/
def md (y : Int) : Nat → Int
  | 0 => 31 | 1 => 28 + lpI y | 2 => 31 | 3 => 30 | 4 => 31 | 5 => 30 | 6 => 31 | 7 => 31 | 8 => 30 | 9 => 31 | 10 => 30 | _ => 31
/-- Days ahead of a month. -/
def cum (y : Int) : Nat → Int
  | 0 => 0 | 1 => 31 | 2 => 59 + lpI y | 3 => 90 + lpI y | 4 => 120 + lpI y | 5 => 151 + lpI y | 6 => 181 + lpI y | 7 => 212 + lpI y | 8 => 243 + lpI y | 9 => 273 + lpI y | 10 => 304 + lpI y | _ => 334 + lpI y
theorem months {P : Nat → Prop} (h0 : P 0) (h1 : P 1) (h2 : P 2) (h3 : P 3) (h4 : P 4) (h5 : P 5) (h6 : P 6) (h7 : P 7) (h8 : P 8) (h9 : P 9) (h10 : P 10) (h11 : P 11) : ∀ m, m < 12 → P m
  | 0, _ => h0 | 1, _ => h1 | 2, _ => h2 | 3, _ => h3 | 4, _ => h4 | 5, _ => h5 | 6, _ => h6 | 7, _ => h7 | 8, _ => h8 | 9, _ => h9 | 10, _ => h10 | 11, _ => h11
  | n + 12, h => by omega
theorem md_bd (y : Int) (m : Nat) : 28 ≤ md y m ∧ md y m ≤ 31 := by
  have := lpI_bd y
  unfold md
  split <;> omega
theorem cum_succ (y : Int) (m : Nat) (h : m < 11) : cum y (m + 1) = cum y m + md y m := by
  revert h; revert m
  intro m h
  have : m = 0 ∨ m = 1 ∨ m = 2 ∨ m = 3 ∨ m = 4 ∨ m = 5 ∨ m = 6 ∨ m = 7 ∨ m = 8 ∨ m = 9 ∨ m = 10 := by omega
  rcases this with rfl | rfl | rfl | rfl | rfl | rfl | rfl | rfl | rfl | rfl | rfl <;> simp only [cum, md] <;> omega
theorem cum_last (y : Int) : cum y 11 + md y 11 = 365 + lpI y := by simp only [cum, md]; omega
theorem cum_le (y : Int) : ∀ a b : Nat, a ≤ b → b < 12 → cum y a ≤ cum y b := by
  intro a b h hb
  have := lpI_bd y
  induction b with
  | zero => obtain rfl : a = 0 := by omega
            exact Int.le_refl _
  | succ b ih =>
    rcases Nat.lt_or_ge b a with h1 | h1
    · obtain rfl : a = b + 1 := by omega
      exact Int.le_refl _
    · have h2 := ih h1 (by omega)
      have h3 := cum_succ y b (by omega)
      have h4 := md_bd y b
      omega
theorem cum_step (y : Int) (a b : Nat) (h : a < b) (hb : b < 12) : cum y a + md y a ≤ cum y b := by
  rw [← cum_succ y a (by omega)]; exact cum_le y _ _ (by omega) hb
theorem cum_top (y : Int) (m : Nat) (h : m < 12) : cum y m + md y m ≤ 365 + lpI y := by
  rcases Nat.lt_or_ge m 11 with h1 | h1
  · have := cum_step y m 11 h1 (by omega)
    have := cum_last y
    have := md_bd y 11
    omega
  · obtain rfl : m = 11 := by omega
    have := cum_last y
    omega
theorem cum_bd (y : Int) (m : Nat) : 0 ≤ cum y m ∧ cum y m ≤ 335 := by
  have := lpI_bd y
  unfold cum
  split <;> omega

/-- Day n is day r (from 0 on) of month m (from 0 on) of year y. -/
structure IsCivil (n y : Int) (m : Nat) (r : Int) : Prop where
  y0 : 1970 ≤ y
  m1 : m < 12
  r0 : 0 ≤ r
  r1 : r < md y m
  eq : n = yd y + cum y m + r

theorem civil_exists : ∀ n : Nat, ∃ y m r, IsCivil n y m r
  | 0 => ⟨1970, 0, 0, by omega, by omega, by omega, by simp [md], by simp [yd, cum]⟩
  | n + 1 => by
    obtain ⟨y, m, r, h⟩ := civil_exists n
    have hd := md_bd y
    rcases Int.lt_or_le (r + 1) (md y m) with h1 | h1
    · exact ⟨y, m, r + 1, h.y0, h.m1, by have := h.r0; omega, h1, by have := h.eq; omega⟩
    · rcases Nat.lt_or_ge m 11 with h2 | h2
      · exact ⟨y, m + 1, 0, h.y0, by omega, by omega, by have := hd (m + 1); omega, by
          have := h.eq
          have := cum_succ y m h2
          have := h.r1
          omega⟩
      · obtain rfl : m = 11 := by have := h.m1; omega
        exact ⟨y + 1, 0, 0, by have := h.y0; omega, by omega, by omega, by simp [md], by
          have := h.eq
          have := h.r1
          have := cum_last y
          rw [yd_succ]
          show _ = _ + 0 + 0
          omega⟩

theorem IsCivil.y1 {n y r : Int} {m : Nat} (h : IsCivil n y m r) (hn : n ≤ 2932896) : y ≤ 9999 := by
  rcases Int.lt_or_le 9999 y with h1 | h1
  · have h2 := yd_mono (show (10000 : Int) ≤ y by omega)
    have h3 : yd 10000 = 2932897 := by decide
    have := h.eq
    have := (cum_bd y m).1
    have := h.r0
    omega
  · exact h1

/-- The first day of a year of 400 that begins with March. -/
def sy (r : Int) : Int := 365 * r + r / 4 - r / 100
def fy (d : Int) : Int := d - d / 1460 + d / 36524 - d / 146096
theorem fy_mono {a b : Int} (h0 : 0 ≤ a) (h : a ≤ b) : fy a ≤ fy b := by unfold fy; omega
/-- The last day of the year r of 400. -/
def ly (r : Int) : Int := if (r + 1) % 4 == 0 && (!((r + 1) % 100 == 0) || r == 399) then 365 else 364
theorem fy_ends : ∀ r : Fin 400, fy (sy (r.val : Int)) / 365 = r.val ∧ fy (sy (r.val : Int) + ly r.val) / 365 = r.val ∧ sy r.val + ly r.val < 146097 := by decide +kernel
theorem fy_year (r d : Int) (h0 : 0 ≤ r) (h1 : r < 400) (hd0 : 0 ≤ d) (hd1 : d ≤ ly r) : fy (sy r + d) / 365 = r ∧ sy r + d < 146097 := by
  obtain ⟨k, rfl⟩ := Int.eq_ofNat_of_zero_le h0
  have h := fy_ends ⟨k, by omega⟩
  simp only at h
  have hs : 0 ≤ sy k := by unfold sy; omega
  have a := fy_mono (a := sy k) (b := sy k + d) hs (by omega)
  have b := fy_mono (a := sy k + d) (b := sy k + ly k) (by omega) (by omega)
  omega

/-- The formulas of date.Civil. -/
def cN (n : Int) : Int := n + 719468
def cE (n : Int) : Int := cN n / 146097
def cD (n : Int) : Int := cN n % 146097
def cY (n : Int) : Int := (cD n - cD n / 1460 + cD n / 36524 - cD n / 146096) / 365
def cR (n : Int) : Int := cD n - (cY n * 365 + cY n / 4 - cY n / 100)
def cM (n : Int) : Int := (5 * cR n + 2) / 153
def cF (n : Int) : Int := cR n - (153 * cM n + 2) / 5 + 1

/-- The parts of the formula, of a day that begins so: e: 400 years, r: year, p: month from March on, d: day. -/
theorem cParts (n e r d : Int) (p : Nat) (hp : p < 12) (he : 0 ≤ e) (h0 : 0 ≤ r) (h1 : r < 400) (hd0 : 0 ≤ d) (hd1 : (153 * (p : Int) + 2) / 5 + d ≤ ly r) (hd2 : (153 * (p : Int) + 2) / 5 + d < (153 * ((p : Int) + 1) + 2) / 5)
    (hn : n + 719468 = e * 146097 + (sy r + ((153 * (p : Int) + 2) / 5 + d))) : cE n = e ∧ cY n = r ∧ cM n = p ∧ cF n = d + 1 ∧ 0 ≤ cD n ∧ cD n < 146097 ∧ 0 ≤ cR n ∧ cR n ≤ 400 := by
  have hy := fy_year r ((153 * (p : Int) + 2) / 5 + d) h0 h1 (by omega) hd1
  have hs : 0 ≤ sy r := by unfold sy; omega
  have e1 : cE n = e := by unfold cE cN; omega
  have e2 : cD n = sy r + ((153 * (p : Int) + 2) / 5 + d) := by unfold cD cN; omega
  have e3 : cY n = r := by unfold cY; rw [e2]; exact hy.1
  have e4 : cR n = (153 * (p : Int) + 2) / 5 + d := by unfold cR; rw [e3, e2]; unfold sy; omega
  have e5 : cM n = p := by unfold cM; rw [e4]; omega
  have hl : ly r ≤ 365 := by unfold ly; split <;> omega
  refine ⟨e1, e3, e5, ?_, by rw [e2]; omega, by rw [e2]; omega, by rw [e4]; omega, by rw [e4]; omega⟩
  unfold cF
  rw [e5, e4]
  omega

set_option maxHeartbeats 2000000 in
theorem IsCivil.formula {n y r : Int} {m : Nat} (h : IsCivil n y m r) :
    cF n = r + 1 ∧ 0 ≤ cD n ∧ cD n < 146097 ∧ 0 ≤ cR n ∧ cR n ≤ 400 ∧ 0 ≤ cY n ∧ cY n < 400 ∧ ((2 ≤ m ∧ cM n = m - 2 ∧ cE n * 400 + cY n = y) ∨ (m < 2 ∧ cM n = m + 10 ∧ cE n * 400 + cY n + 1 = y)) := by
  obtain ⟨y0, m1, r0, r1, heq⟩ := h
  have hl := lpI_bd y
  rcases Nat.lt_or_ge m 2 with h2 | h2
  · -- January and February belong to the year before
    have hc := cParts n ((y - 1) / 400) ((y - 1) % 400) r (m + 10) (by omega) (by omega) (by omega) (by omega) r0
    have hly : ly ((y - 1) % 400) = 364 + lpI y := by
      unfold ly lpI lp
      have h3 : ((y - 1) % 400 + 1) % 4 = y % 4 := by omega
      have h4 : ((y - 1) % 400 + 1) % 100 = y % 100 := by omega
      have h5 : ((y - 1) % 400 == 399) = (y % 400 == 0) := by rw [Bool.eq_iff_iff]; simp; omega
      rw [h3, h4, h5]
      have h6 : (y % 4 == 0 && (!y % 100 == 0 || y % 400 == 0)) = (y % 400 == 0 || !y % 100 == 0 && y % 4 == 0) := lp_eq y
      rw [h6]
      split <;> rfl
    have : m = 0 ∨ m = 1 := by omega
    have hyd : n + 719468 = (y - 1) / 400 * 146097 + (sy ((y - 1) % 400) + (306 + cum y m + r)) := by
      rw [heq]; unfold yd sy; omega
    rcases this with rfl | rfl
    · simp only [md, cum] at r1 hyd
      obtain ⟨q1, q2, q3, q4, q5, q6, q7, q8⟩ := hc (by rw [hly]; omega) (by omega) (by rw [hyd]; omega)
      exact ⟨q4, q5, q6, q7, q8, by omega, by omega, .inr ⟨by omega, by rw [q3]; rfl, by omega⟩⟩
    · simp only [md, cum] at r1 hyd
      obtain ⟨q1, q2, q3, q4, q5, q6, q7, q8⟩ := hc (by rw [hly]; omega) (by omega) (by rw [hyd]; omega)
      exact ⟨q4, q5, q6, q7, q8, by omega, by omega, .inr ⟨by omega, by rw [q3]; rfl, by omega⟩⟩
  · have hc := cParts n (y / 400) (y % 400) r (m - 2) (by omega) (by omega) (by omega) (by omega) r0
    have hly : 364 ≤ ly (y % 400) := by unfold ly; split <;> omega
    have hyd : n + 719468 = y / 400 * 146097 + (sy (y % 400) + (cum y m - lpI y - 59 + r)) := by
      have h8 : yd y + lpI y = 365 * (y - 1970) + y / 4 - y / 100 + y / 400 - 477 := by
        have := yd_succ y; unfold yd at this ⊢; omega
      rw [heq]; unfold sy; omega
    have : m = 2 ∨ m = 3 ∨ m = 4 ∨ m = 5 ∨ m = 6 ∨ m = 7 ∨ m = 8 ∨ m = 9 ∨ m = 10 ∨ m = 11 := by omega
    rcases this with rfl | rfl | rfl | rfl | rfl | rfl | rfl | rfl | rfl | rfl <;>
    · simp only [md, cum] at r1 hyd
      obtain ⟨q1, q2, q3, q4, q5, q6, q7, q8⟩ := hc (by simp; omega) (by simp; omega) (by rw [hyd]; first | (simp; done) | (simp; omega))
      exact ⟨q4, q5, q6, q7, q8, by omega, by omega, .inl ⟨by omega, by rw [q3]; rfl, by omega⟩⟩

/-- The formula of date.Days, of a month from March on (m - 1 from 0 on is k). -/
theorem dFormula (y : Int) (k : Nat) (d : Int) (hk : k < 12) :
    (2 ≤ k → y * 365 + y / 4 - y / 100 + y / 400 + (153 * ((k : Int) - 2) + 2) / 5 + d - 1 - 719468 = yd y + cum y k + d - 1) ∧
    (k < 2 → (y - 1) * 365 + (y - 1) / 4 - (y - 1) / 100 + (y - 1) / 400 + (153 * ((k : Int) + 10) + 2) / 5 + d - 1 - 719468 = yd y + cum y k + d - 1) := by
  have h8 : yd y + lpI y = 365 * (y - 1970) + y / 4 - y / 100 + y / 400 - 477 := by
    have := yd_succ y; unfold yd at this ⊢; omega
  refine ⟨fun h2 => ?_, fun h2 => ?_⟩
  · have : k = 2 ∨ k = 3 ∨ k = 4 ∨ k = 5 ∨ k = 6 ∨ k = 7 ∨ k = 8 ∨ k = 9 ∨ k = 10 ∨ k = 11 := by omega
    rcases this with rfl | rfl | rfl | rfl | rfl | rfl | rfl | rfl | rfl | rfl <;> simp only [cum] <;> omega
  · have : k = 0 ∨ k = 1 := by omega
    rcases this with rfl | rfl <;> simp only [cum] <;> unfold yd <;> omega
theorem yd_bd {y : Int} (h0 : 1970 ≤ y) (h1 : y ≤ 9999) : 0 ≤ yd y ∧ yd y ≤ 2932532 := by
  have a := yd_mono h0
  have b := yd_mono h1
  have : yd 1970 = 0 := by decide
  have : yd 9999 = 2932532 := by decide
  omega
end Go.Larder
