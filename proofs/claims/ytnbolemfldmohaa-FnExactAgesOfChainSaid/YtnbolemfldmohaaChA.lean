/- Lists of whole numbers that are in proportion, and their greatest common divisor, in plain words. No condition. -/
import Derived.Test.YtnbolemfldmohaaMth
namespace Go.Proofs.Ytnbolemfldmohaa.Ch
open Go.Proofs.Ytnbolemfldmohaa.Mth
/-- The greatest common divisor of all. -/
def gl (l : List Int) : Int := l.foldl g 0
theorem g_nonneg (a b : Int) : 0 ≤ g a b := by unfold g; omega
theorem g_mul (c a b : Int) (hc : 0 ≤ c) : g (c * a) (c * b) = c * g a b := by
  unfold g
  rw [Int.gcd_mul_left]
  rw [Int.natCast_mul, Int.natAbs_of_nonneg hc]
theorem gl_mul' (c : Int) (hc : 0 ≤ c) (l : List Int) : ∀ a, (l.map (c * ·)).foldl g (c * a) = c * l.foldl g a := by
  induction l with
  | nil => intro a; rfl
  | cons x l ih => intro a; rw [List.map_cons, List.foldl_cons, List.foldl_cons, g_mul c a x hc, ih]
theorem gl_mul (c : Int) (hc : 0 ≤ c) (l : List Int) : gl (l.map (c * ·)) = c * gl l := by
  have := gl_mul' c hc l 0
  rw [Int.mul_zero] at this
  exact this
theorem gl_dvd' (l : List Int) : ∀ a, l.foldl g a ∣ a ∧ ∀ x ∈ l, l.foldl g a ∣ x := by
  induction l with
  | nil => intro a; exact ⟨Int.dvd_refl _, fun x hx => by cases hx⟩
  | cons y l ih =>
    intro a
    obtain ⟨h1, h2⟩ := ih (g a y)
    rw [List.foldl_cons]
    refine ⟨Int.dvd_trans h1 (g_dvd_l a y), fun x hx => ?_⟩
    rcases List.mem_cons.1 hx with rfl | hx
    · exact Int.dvd_trans h1 (g_dvd_r a x)
    · exact h2 x hx
theorem gl_dvd (l : List Int) (x : Int) (hx : x ∈ l) : gl l ∣ x := (gl_dvd' l 0).2 x hx
theorem gl_nonneg' (l : List Int) : ∀ a, 0 ≤ a → 0 ≤ l.foldl g a := by
  induction l with
  | nil => intro a h; exact h
  | cons y l ih => intro a _; exact ih _ (g_nonneg a y)
theorem gl_nonneg (l : List Int) : 0 ≤ gl l := gl_nonneg' l 0 (Int.le_refl _)
def Pos (l : List Int) : Prop := ∀ x ∈ l, 1 ≤ x
theorem gl_pos (l : List Int) (h : Pos l) (h0 : l ≠ []) : 1 ≤ gl l := by
  obtain ⟨x, t, rfl⟩ := List.exists_cons_of_ne_nil h0
  have h1 := gl_dvd (x :: t) x (List.mem_cons_self ..)
  have h2 := h x (List.mem_cons_self ..)
  have h3 := gl_nonneg (x :: t)
  have h4 : gl (x :: t) ≠ 0 := by
    intro e
    rw [e] at h1
    have := Int.zero_dvd.1 h1
    omega
  omega
/-- In proportion. -/
def Prp (s v : List Int) : Prop := ∃ x y : Int, 1 ≤ x ∧ 1 ≤ y ∧ s.map (x * ·) = v.map (y * ·)
theorem map_inj (c : Int) (hc : 1 ≤ c) : ∀ (a b : List Int), a.map (c * ·) = b.map (c * ·) → a = b
  | [], [], _ => rfl
  | [], _ :: _, h => by simp at h
  | _ :: _, [], h => by simp at h
  | x :: a, y :: b, h => by
    rw [List.map_cons, List.map_cons] at h
    injection h with h1 h2
    rw [Int.eq_of_mul_eq_mul_left (by omega) h1, map_inj c hc a b h2]
theorem map_div (c : Int) (_hc : 1 ≤ c) (l : List Int) (h : ∀ x ∈ l, c ∣ x) : (l.map (· / c)).map (c * ·) = l := by
  rw [List.map_map]
  have : ∀ x ∈ l, ((c * ·) ∘ (· / c)) x = x := fun x hx => Int.mul_ediv_cancel' (h x hx)
  rw [List.map_congr_left this]
  exact List.map_id' l
/-- In lowest terms they are one. -/
theorem Prp_low (s v : List Int) (h : Prp s v) (hv : gl v = 1) (hs : Pos s) (h0 : s ≠ []) : s.map (· / gl s) = v := by
  obtain ⟨x, y, hx, hy, e⟩ := h
  have h1 := gl_mul x (by omega) s
  have h2 := gl_mul y (by omega) v
  rw [e, h2, hv, Int.mul_one] at h1
  have hp := gl_pos s hs h0
  apply map_inj (gl s) hp
  rw [map_div _ hp s (fun z hz => gl_dvd s z hz)]
  apply map_inj x hx
  rw [e, h1, List.map_map]
  congr 1
  funext z
  show x * gl s * z = x * (gl s * z)
  rw [Int.mul_assoc]
theorem low_one (v : List Int) (hv : Pos v) (h0 : v ≠ []) : gl (v.map (· / gl v)) = 1 := by
  have hp := gl_pos v hv h0
  have h1 := gl_mul (gl v) (by omega) (v.map (· / gl v))
  rw [map_div _ hp v (fun z hz => gl_dvd v z hz)] at h1
  have h2 : gl v * 1 = gl v * gl (v.map (· / gl v)) := by rw [Int.mul_one]; exact h1
  exact (Int.eq_of_mul_eq_mul_left (by omega) h2).symm
theorem low_pos (v : List Int) (hv : Pos v) (h0 : v ≠ []) : Pos (v.map (· / gl v)) := by
  have hp := gl_pos v hv h0
  intro x hx
  obtain ⟨z, hz, rfl⟩ := List.mem_map.1 hx
  have := Int.ediv_pos_of_pos_of_dvd (show 0 < z by have := hv z hz; omega) (by omega) (gl_dvd v z hz)
  omega
/-- One ratio more, the program's way: before all is divided. -/
def up (n d : Int) (v : List Int) : List Int := v.headD 0 * n / g (v.headD 0 * n) d :: v.map (· * (d / g (v.headD 0 * n) d))
def upI (n d : Int) (v : List Int) : List Int := (up n d v).map (· / gl (up n d v))
/-- The reference's way. -/
def upS (n d : Int) (s : List Int) : List Int := lowN (n * s.headD 0) d :: s.map (· * lowD (n * s.headD 0) d)
theorem pos_mul (a b : Int) (ha : 1 ≤ a) (hb : 1 ≤ b) : 1 ≤ a * b := by
  have : 0 < a * b := Int.mul_pos (by omega) (by omega)
  omega
theorem head_pos (v : List Int) (hv : Pos v) (h0 : v ≠ []) : 1 ≤ v.headD 0 := by
  obtain ⟨x, t, rfl⟩ := List.exists_cons_of_ne_nil h0
  exact hv x (List.mem_cons_self ..)
theorem div_pos (a c : Int) (ha : 1 ≤ a) (hc : 1 ≤ c) (h : c ∣ a) : 1 ≤ a / c := by
  have := Int.ediv_pos_of_pos_of_dvd (show 0 < a by omega) (by omega) h
  omega
theorem up_pos (n d : Int) (v : List Int) (hn : 1 ≤ n) (hd : 1 ≤ d) (hv : Pos v) (h0 : v ≠ []) : Pos (up n d v) := by
  have hh := pos_mul _ _ (head_pos v hv h0) hn
  have hg := g_pos (v.headD 0 * n) d (by omega)
  have hD := div_pos d _ hd hg (g_dvd_r (v.headD 0 * n) d)
  intro x hx
  rcases List.mem_cons.1 hx with rfl | hx
  · exact div_pos _ _ hh hg (g_dvd_l _ _)
  · obtain ⟨z, hz, rfl⟩ := List.mem_map.1 hx
    exact pos_mul _ _ (hv z hz) hD
theorem upS_pos (n d : Int) (v : List Int) (hn : 1 ≤ n) (hd : 1 ≤ d) (hv : Pos v) (h0 : v ≠ []) : Pos (upS n d v) := by
  have hh := pos_mul _ _ hn (head_pos v hv h0)
  have hg := g_pos (n * v.headD 0) d (by omega)
  intro x hx
  rcases List.mem_cons.1 hx with rfl | hx
  · unfold lowN; rw [if_neg (by omega)]; exact div_pos _ _ hh hg (g_dvd_l _ _)
  · obtain ⟨z, hz, rfl⟩ := List.mem_map.1 hx
    exact pos_mul _ _ (hv z hz) (lowD_pos _ _ (by omega))
theorem up_mul (n d : Int) (v : List Int) (_hd : 1 ≤ d) : (up n d v).map (g (v.headD 0 * n) d * ·) = v.headD 0 * n :: v.map (d * ·) := by
  unfold up
  rw [List.map_cons, List.map_map, Int.mul_ediv_cancel' (g_dvd_l _ _)]
  congr 2
  funext z
  show g (v.headD 0 * n) d * (z * (d / g (v.headD 0 * n) d)) = d * z
  rw [Int.mul_left_comm, Int.mul_ediv_cancel' (g_dvd_r _ _), Int.mul_comm]
theorem upS_mul (n d : Int) (s : List Int) (hd : 1 ≤ d) : (upS n d s).map (g (n * s.headD 0) d * ·) = n * s.headD 0 :: s.map (d * ·) := by
  unfold upS
  have h1 := low_mul_N (n * s.headD 0) d (by omega)
  have h2 := low_mul_D (n * s.headD 0) d (by omega)
  rw [if_neg (by omega)] at h1 h2
  rw [List.map_cons, List.map_map, Int.mul_comm (g _ _) (lowN _ _), h1]
  congr 2
  funext z
  show g (n * s.headD 0) d * (z * lowD (n * s.headD 0) d) = d * z
  rw [Int.mul_left_comm, Int.mul_comm (g _ _), h2, Int.mul_comm]
theorem Prp_head (x y : Int) : ∀ (s v : List Int), s.map (x * ·) = v.map (y * ·) → x * s.headD 0 = y * v.headD 0
  | [], [], _ => by simp
  | [], _ :: _, h => by simp at h
  | _ :: _, [], h => by simp at h
  | a :: s, b :: v, h => by
    rw [List.map_cons, List.map_cons] at h
    injection h
theorem map_map_mul (a b : Int) (l : List Int) : (l.map (b * ·)).map (a * ·) = l.map (a * b * ·) := by
  rw [List.map_map]
  congr 1
  funext z
  show a * (b * z) = a * b * z
  rw [Int.mul_assoc]
/-- One ratio more on both sides: still in proportion. -/
theorem Prp_up (n d : Int) (s v : List Int) (hn : 1 ≤ n) (hd : 1 ≤ d) (h : Prp s v) (hv : Pos v) (h0 : v ≠ []) : Prp (upS n d s) (upI n d v) := by
  obtain ⟨x, y, hx, hy, e⟩ := h
  have hg1 := g_pos (n * s.headD 0) d (by omega)
  have hg2 := g_pos (v.headD 0 * n) d (by omega)
  have hup := up_pos n d v hn hd hv h0
  have hal := gl_pos (up n d v) hup (by simp [up])
  refine ⟨x * g (n * s.headD 0) d, y * g (v.headD 0 * n) d * gl (up n d v), pos_mul _ _ hx hg1, pos_mul _ _ (pos_mul _ _ hy hg2) hal, ?_⟩
  rw [← map_map_mul, upS_mul n d s hd, ← map_map_mul]
  unfold upI
  rw [map_div _ hal _ (fun z hz => gl_dvd _ z hz), ← map_map_mul, up_mul n d v hd, List.map_cons, List.map_cons, map_map_mul, map_map_mul]
  have hh := Prp_head x y s v e
  congr 1
  · rw [Int.mul_left_comm, hh, Int.mul_left_comm, Int.mul_comm n]
  · have h2 : (s.map (x * ·)).map (d * ·) = (v.map (y * ·)).map (d * ·) := by rw [e]
    rw [map_map_mul, map_map_mul] at h2
    rw [Int.mul_comm x d, Int.mul_comm y d]
    exact h2
theorem upI_pos (n d : Int) (v : List Int) (hn : 1 ≤ n) (hd : 1 ≤ d) (hv : Pos v) (h0 : v ≠ []) : Pos (upI n d v) := low_pos _ (up_pos n d v hn hd hv h0) (by simp [up])
theorem upI_one (n d : Int) (v : List Int) (hn : 1 ≤ n) (hd : 1 ≤ d) (hv : Pos v) (h0 : v ≠ []) : gl (upI n d v) = 1 := low_one _ (up_pos n d v hn hd hv h0) (by simp [up])
end Go.Proofs.Ytnbolemfldmohaa.Ch
