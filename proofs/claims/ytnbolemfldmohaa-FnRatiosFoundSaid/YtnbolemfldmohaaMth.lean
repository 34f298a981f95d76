/- Plain arithmetic: fractions in lowest terms, least common multiples; no program, no condition. -/
import Derived.Test.YtnbolemfldmohaaWWords

namespace Go.Proofs.Ytnbolemfldmohaa.Mth
/-- A fraction in lowest terms with a number of at least 1 below (den ≠ 0). -/
def g (n d : Int) : Int := (Int.gcd n d : Int)
def lowN (n d : Int) : Int := (if d < 0 then -n else n) / g n d
def lowD (n d : Int) : Int := (if d < 0 then -d else d) / g n d

theorem g_pos (n d : Int) (h : d ≠ 0) : 1 ≤ g n d := by
  unfold g
  have : 0 < Int.gcd n d := Int.gcd_pos_of_ne_zero_right _ h
  omega
theorem g_dvd_l (n d : Int) : g n d ∣ n := Int.gcd_dvd_left ..
theorem g_dvd_r (n d : Int) : g n d ∣ d := Int.gcd_dvd_right ..
theorem g_neg_l (n d : Int) : g (-n) d = g n d := by unfold g; rw [Int.neg_gcd]
theorem g_neg_r (n d : Int) : g n (-d) = g n d := by unfold g; rw [Int.gcd_neg]
theorem g_step (a b : Int) (_h : b ≠ 0) : g b (a.tmod b) = g a b := by
  unfold g Int.gcd
  rw [Int.natAbs_tmod, Nat.gcd_comm b.natAbs, ← Nat.gcd_rec, Nat.gcd_comm]
theorem g_zero (a : Int) : g a 0 = a.natAbs := by unfold g; simp
theorem g_le_r (n d : Int) (h : 1 ≤ d) : g n d ≤ d := by
  have := Int.le_of_dvd (by omega) (g_dvd_r n d)
  omega
theorem tdiv_of_dvd (a b : Int) (h : b ∣ a) : a.tdiv b = a / b := by
  obtain ⟨c, rfl⟩ := h
  by_cases hb : b = 0
  · subst hb; simp
  · rw [Int.mul_tdiv_cancel_left _ hb, Int.mul_ediv_cancel_left _ hb]
theorem lowD_pos (n d : Int) (h : d ≠ 0) : 1 ≤ lowD n d := by
  unfold lowD
  have h1 := g_pos n d h
  have h2 : g n d ∣ (if d < 0 then -d else d) := by split; exact Int.dvd_neg.2 (g_dvd_r n d); exact g_dvd_r n d
  have h3 : 0 < (if d < 0 then -d else d) := by split <;> omega
  have := Int.ediv_pos_of_pos_of_dvd h3 (by omega) h2
  omega
theorem lowD_le (n d : Int) (h : d ≠ 0) : lowD n d ≤ (if d < 0 then -d else d) := by
  unfold lowD
  have h1 := g_pos n d h
  exact Int.ediv_le_self _ (by split <;> omega)
theorem low_mul_N (n d : Int) (_h : d ≠ 0) : lowN n d * g n d = (if d < 0 then -n else n) := by
  unfold lowN
  exact Int.ediv_mul_cancel (by split; exact Int.dvd_neg.2 (g_dvd_l n d); exact g_dvd_l n d)
theorem low_mul_D (n d : Int) (_h : d ≠ 0) : lowD n d * g n d = (if d < 0 then -d else d) := by
  unfold lowD
  exact Int.ediv_mul_cancel (by split; exact Int.dvd_neg.2 (g_dvd_r n d); exact g_dvd_r n d)
theorem lowN_neg (n d : Int) (h : d ≠ 0) : lowN (-n) (-d) = lowN n d := by
  unfold lowN; rw [g_neg_l, g_neg_r]
  congr 1
  by_cases h1 : d < 0
  · rw [if_neg (by omega), if_pos h1]
  · rw [if_pos (by omega), if_neg h1]; omega
theorem lowD_neg (n d : Int) (h : d ≠ 0) : lowD (-n) (-d) = lowD n d := by
  unfold lowD; rw [g_neg_l, g_neg_r]
  congr 1
  by_cases h1 : d < 0
  · rw [if_neg (by omega), if_pos h1]
  · rw [if_pos (by omega), if_neg h1]; omega
theorem abs_of_mul (q c x : Int) (h : q * c = x) (hc : 1 ≤ c) : q.natAbs ≤ x.natAbs := by
  subst h
  rw [Int.natAbs_mul]
  exact Nat.le_mul_of_pos_right _ (by omega)
theorem lowN_abs (n d : Int) (h : d ≠ 0) : (lowN n d).natAbs ≤ n.natAbs := by
  have h1 := abs_of_mul _ _ _ (low_mul_N n d h) (g_pos n d h)
  split at h1 <;> omega
/-- The fraction is what it was. -/
theorem low_cross (n d : Int) (h : d ≠ 0) : lowN n d * d = n * lowD n d := by
  have h1 := low_mul_N n d h
  have h2 := low_mul_D n d h
  have hg := g_pos n d h
  have h3 : lowN n d * d * g n d = n * lowD n d * g n d := by
    rw [Int.mul_right_comm, h1, Int.mul_assoc, h2]
    split
    · rw [Int.neg_mul, Int.mul_neg]
    · rfl
  exact Int.eq_of_mul_eq_mul_right (by omega) h3
theorem low_coprime (n d : Int) (h : d ≠ 0) : g (lowN n d) (lowD n d) = 1 := by
  unfold lowN lowD
  have hg := g_pos n d h
  by_cases hd : d < 0
  · rw [if_pos hd, if_pos hd]
    have := Int.gcd_ediv_gcd_ediv_gcd (i := -n) (j := -d) (by rw [Int.neg_gcd, Int.gcd_neg]; unfold g at hg; omega)
    rw [Int.neg_gcd, Int.gcd_neg] at this
    unfold g; rw [this]; rfl
  · rw [if_neg hd, if_neg hd]
    have := Int.gcd_ediv_gcd_ediv_gcd (i := n) (j := d) (by unfold g at hg; omega)
    unfold g; rw [this]; rfl
/-- The least multiple of y that v divides. -/
def lcm (y v : Int) : Int := y / g y v * v
theorem lcm_eq (y v : Int) : lcm y v = y * (v / g y v) := by
  unfold lcm
  have h1 := Int.ediv_mul_cancel (g_dvd_l y v)
  have h2 := Int.ediv_mul_cancel (g_dvd_r y v)
  generalize y / g y v = a at *
  generalize v / g y v = b at *
  have e : a * v = a * (g y v * b) := congrArg (a * ·) (by rw [Int.mul_comm (g y v) b]; exact h2.symm)
  rw [e, ← Int.mul_assoc, h1]
theorem part_pos (y v : Int) (hv : 1 ≤ v) : 1 ≤ v / g y v ∧ v / g y v ≤ v := by
  have hg := g_pos y v (by omega)
  constructor
  · have := Int.ediv_pos_of_pos_of_dvd (show 0 < v by omega) (by omega) (g_dvd_r y v)
    omega
  · exact Int.ediv_le_self _ (by omega)
theorem part_pos_l (y v : Int) (hy : 1 ≤ y) (hv : 1 ≤ v) : 1 ≤ y / g y v ∧ y / g y v ≤ y := by
  have hg := g_pos y v (by omega)
  constructor
  · have := Int.ediv_pos_of_pos_of_dvd (show 0 < y by omega) (by omega) (g_dvd_l y v)
    omega
  · exact Int.ediv_le_self _ (by omega)
theorem dvd_mul_iff (y v : Int) (hv : 1 ≤ v) (m : Int) : v ∣ y * m ↔ v / g y v ∣ m := by
  have hg := g_pos y v (by omega)
  have h1 := Int.ediv_mul_cancel (g_dvd_l y v)
  have h2 := Int.ediv_mul_cancel (g_dvd_r y v)
  have hc : Int.gcd (y / g y v) (v / g y v) = 1 := Int.gcd_ediv_gcd_ediv_gcd (i := y) (j := v) (by unfold g at hg; omega)
  generalize y / g y v = a at *
  generalize v / g y v = b at *
  generalize g y v = c at *
  subst h1 h2
  constructor
  · intro h
    have h3 : b * c ∣ (a * m) * c := by rw [Int.mul_right_comm]; exact h
    have h4 : b ∣ a * m := by
      obtain ⟨q, hq⟩ := h3
      exact ⟨q, Int.eq_of_mul_eq_mul_right (show c ≠ 0 by omega) (by rw [hq, Int.mul_right_comm])⟩
    have h5 : b.natAbs ∣ a.natAbs * m.natAbs := by rw [← Int.natAbs_mul]; exact Int.natAbs_dvd_natAbs.2 h4
    have h6 : b.natAbs ∣ m.natAbs := Nat.Coprime.dvd_of_dvd_mul_left (by unfold Int.gcd at hc; rw [Nat.Coprime, Nat.gcd_comm]; exact hc) h5
    exact Int.natAbs_dvd_natAbs.1 h6
  · rintro ⟨q, rfl⟩
    exact ⟨a * q, by rw [Int.mul_assoc, Int.mul_assoc]; rw [Int.mul_left_comm a, Int.mul_left_comm c, Int.mul_left_comm c, ← Int.mul_assoc b c]; simp only [Int.mul_comm, Int.mul_left_comm]⟩
end Go.Proofs.Ytnbolemfldmohaa.Mth
