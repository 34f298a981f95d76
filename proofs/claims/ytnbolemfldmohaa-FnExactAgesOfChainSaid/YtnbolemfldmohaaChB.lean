/- Plain lemmas: one round of the least chain, number by number, as the machine reckons it; how great the numbers grow. No condition. -/
import Derived.Test.YtnbolemfldmohaaChA
import Derived.Test.YtnbolemfldmohaaEv
namespace Go.Proofs.Ytnbolemfldmohaa.Ch
open Go.Proofs.Ytnbolemfldmohaa.Mth Go.Proofs.Ytnbolemfldmohaa.E Go.RowKit Go.Proofs.YtnbolemfldmohaaW.PrintWords
/-- All numbers are from 1 to B. -/
def Bd (B : Int) (l : List Int) : Prop := ∀ x ∈ l, 1 ≤ x ∧ x ≤ B
theorem Bd.pos {B : Int} {l : List Int} (h : Bd B l) : Pos l := fun x hx => (h x hx).1
theorem Bd.mono {B C : Int} {l : List Int} (h : Bd B l) (hc : B ≤ C) : Bd C l := fun x hx => ⟨(h x hx).1, Int.le_trans (h x hx).2 hc⟩
theorem Bd.head {B : Int} {l : List Int} (h : Bd B l) (h0 : l ≠ []) : 1 ≤ l.headD 0 ∧ l.headD 0 ≤ B := by
  obtain ⟨x, t, rfl⟩ := List.exists_cons_of_ne_nil h0
  exact h x (List.mem_cons_self ..)
theorem div_bd (a c B : Int) (ha : 1 ≤ a ∧ a ≤ B) (hc : 1 ≤ c) (h : c ∣ a) : 1 ≤ a / c ∧ a / c ≤ B := by
  refine ⟨div_pos a c ha.1 hc h, ?_⟩
  have := Int.ediv_le_self (a := a) c (by omega)
  omega
theorem mul_bd (a b B C : Int) (ha : 1 ≤ a ∧ a ≤ B) (hb : 1 ≤ b ∧ b ≤ C) : 1 ≤ a * b ∧ a * b ≤ B * C :=
  ⟨pos_mul a b ha.1 hb.1, Int.mul_le_mul ha.2 hb.2 (by omega) (by omega)⟩
theorem part_bd (x q : Int) (hq : 1 ≤ q ∧ q ≤ 100) : 1 ≤ q / g x q ∧ q / g x q ≤ 100 := div_bd q _ 100 hq (g_pos x q (by omega)) (g_dvd_r x q)
theorem up_bd (B : Int) (p q : Int) (s : List Int) (hp : 1 ≤ p ∧ p ≤ 100) (hq : 1 ≤ q ∧ q ≤ 100) (hs : Bd B s) (h0 : s ≠ []) : Bd (B * 100) (up p q s) := by
  intro x hx
  rcases List.mem_cons.1 hx with rfl | hx
  · exact div_bd _ _ _ (mul_bd _ _ _ _ (hs.head h0) hp) (g_pos _ _ (by omega)) (g_dvd_l _ _)
  · obtain ⟨z, hz, rfl⟩ := List.mem_map.1 hx
    exact mul_bd _ _ _ _ (hs z hz) (part_bd _ _ hq)
theorem low_bd (B : Int) (v : List Int) (hv : Bd B v) (h0 : v ≠ []) : Bd B (v.map (· / gl v)) := by
  intro x hx
  obtain ⟨z, hz, rfl⟩ := List.mem_map.1 hx
  exact div_bd _ _ _ (hv z hz) (gl_pos v hv.pos h0) (gl_dvd v z hz)
theorem up_ne (p q : Int) (s : List Int) : up p q s ≠ [] := by simp [up]
theorem upI_bd (B : Int) (p q : Int) (s : List Int) (hp : 1 ≤ p ∧ p ≤ 100) (hq : 1 ≤ q ∧ q ≤ 100) (hs : Bd B s) (h0 : s ≠ []) : Bd (B * 100) (upI p q s) :=
  low_bd _ _ (up_bd B p q s hp hq hs h0) (up_ne p q s)
theorem upI_len (p q : Int) (s : List Int) : (upI p q s).length = s.length + 1 := by simp [upI, up]
/-- What the divisors found so far are. -/
theorem gls_bd (B : Int) (hB : 0 ≤ B) (v : List Int) (hv : Bd B v) : 0 ≤ gl v ∧ gl v ≤ B := by
  refine ⟨gl_nonneg v, ?_⟩
  cases v with
  | nil => exact hB
  | cons x t =>
    have h1 := hv x (List.mem_cons_self ..)
    have h2 := gl_dvd (x :: t) x (List.mem_cons_self ..)
    have := Int.le_of_dvd (by omega) h2
    omega
theorem gl_snoc (v : List Int) (x : Int) : gl (v ++ [x]) = g (gl v) x := by simp [gl]
theorem gl_take (v : List Int) (i : Nat) (h : i < v.length) : gl (v.take (i + 1)) = g (gl (v.take i)) (v.getD i 0) := by
  rw [← gl_snoc, List.getD_eq_getElem?_getD, List.take_add_one]
  simp [List.getElem?_eq_getElem h]
/-- The machine's numbers are the plain ones. -/
theorem head_num (B s0 p q : Int) (hB : B ≤ 1000000000000) (hs : 1 ≤ s0 ∧ s0 ≤ B) (hp : 1 ≤ p ∧ p ≤ 100) (hq : 1 ≤ q ∧ q ≤ 100) :
    wrap64 (s0 * p) = s0 * p ∧ 1 ≤ s0 * p ∧ s0 * p ≤ 100000000000000 ∧ 1 ≤ g (s0 * p) q ∧ wrap64 ((s0 * p).tdiv (g (s0 * p) q)) = s0 * p / g (s0 * p) q ∧ wrap64 (q.tdiv (g (s0 * p) q)) = q / g (s0 * p) q := by
  have h1 := mul_bd s0 p B 100 hs hp
  have hg := g_pos (s0 * p) q (by omega)
  have h2 := div_bd _ _ _ h1 hg (g_dvd_l _ _)
  have h3 := part_bd (s0 * p) q hq
  refine ⟨w64 _ (by omega), h1.1, by omega, hg, ?_, ?_⟩
  · rw [tdiv_of_dvd _ _ (g_dvd_l _ _), w64 _ (by omega)]
  · rw [tdiv_of_dvd _ _ (g_dvd_r _ _), w64 _ (by omega)]
theorem row_num (B f : Int) (s : List Int) (hB : B ≤ 1000000000000) (hs : Bd B s) (hf : 1 ≤ f ∧ f ≤ 100) : s.map (fun y => wrap64 (y * f)) = s.map (· * f) := by
  refine List.map_congr_left fun y hy => ?_
  have h1 := mul_bd y f B 100 (hs y hy) hf
  exact w64 _ (by omega)
theorem end_num (B : Int) (v : List Int) (hB : B ≤ 100000000000000) (hv : Bd B v) (h0 : v ≠ []) : v.map (fun y => wrap64 (y.tdiv (gl v))) = v.map (· / gl v) := by
  refine List.map_congr_left fun y hy => ?_
  have h1 := div_bd _ _ _ (hv y hy) (gl_pos v hv.pos h0) (gl_dvd v y hy)
  rw [tdiv_of_dvd _ _ (gl_dvd v y hy), w64 _ (by omega)]
end Go.Proofs.Ytnbolemfldmohaa.Ch
