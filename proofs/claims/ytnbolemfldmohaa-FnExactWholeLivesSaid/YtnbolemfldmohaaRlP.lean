/- What is left of a life behind its parts, and the sum of these, on both sides. Condition: a chain of ratios. -/
import Derived.Test.YtnbolemfldmohaaPx2
import Derived.Test.YtnbolemfldmohaaPx1
import Derived.Test.YtnbolemfldmohaaPx7
import Derived.Test.YtnbolemfldmohaaRlC
import Derived.Test.YtnbolemfldmohaaLwB
namespace Go.Proofs.Ytnbolemfldmohaa.Pr
open Go.RowKit Go.Proofs.Ytnbolemfldmohaa.P Go.Proofs.YtnbolemfldmohaaW.PrintWords Go.Proofs.Ytnbolemfldmohaa.E Go.Proofs.Ytnbolemfldmohaa.Mth
theorem g_compl (x e : Int) : g (e - x) e = g x e := by
  unfold g
  have : Int.gcd (e - x) e = Int.gcd x e := by
    rw [Int.gcd_comm, Int.gcd_comm x]
    apply Nat.dvd_antisymm
    · apply Int.dvd_gcd
      · exact Int.gcd_dvd_left ..
      · have h := Int.dvd_sub (Int.gcd_dvd_left e (e - x)) (Int.gcd_dvd_right e (e - x))
        rw [show e - (e - x) = x by omega] at h
        exact h
    · apply Int.dvd_gcd
      · exact Int.gcd_dvd_left ..
      · exact Int.dvd_sub (Int.gcd_dvd_left e x) (Int.gcd_dvd_right e x)
  rw [this]
theorem low_compl (x e : Int) (h : 1 ≤ e) : lowN (e - x) e = lowD x e - lowN x e ∧ lowD (e - x) e = lowD x e := by
  unfold lowN lowD
  rw [g_compl, if_neg (by omega), if_neg (by omega), if_neg (by omega)]
  refine ⟨?_, rfl⟩
  exact Int.sub_ediv_of_dvd _ (g_dvd_l x e)
theorem pw (i : Nat) (h : i ≤ 5) : 100 ^ (i + 1) = 100 ^ i * 100 ∧ (i + 1) * 100 ^ (i + 1) = 100 * (i * 100 ^ i) + 100 ^ i * 100 ∧ 100 ^ i ≤ 10000000000 ∧ i * 100 ^ i ≤ 50000000000 := by
  refine ⟨Nat.pow_succ .., ?_, ?_, ?_⟩
  · rw [Nat.pow_succ, Nat.add_mul, Nat.one_mul, ← Nat.mul_assoc, Nat.mul_comm 100]
  · exact Nat.le_trans (Nat.pow_le_pow_right (by decide) h) (by decide)
  · exact Nat.le_trans (Nat.mul_le_mul h (Nat.pow_le_pow_right (by decide) h)) (by decide)
theorem w62 (x : Int) (h : x.natAbs ≤ 4611686018427387904) : wrap64 x = x := w64 x (by omega)
theorem bds (u v e w : Int) (P Q : Nat) (hP : P ≤ 10000000000) (hQ : Q ≤ 50000000000) (b1 : u.natAbs ≤ Q * 100) (b2 : v.natAbs ≤ 100 * P) (b3 : e.natAbs ≤ P * 100) (b4 : w.natAbs ≤ (P + Q) * 100) :
    u.natAbs ≤ 4611686018427387904 ∧ v.natAbs ≤ 4611686018427387904 ∧ (u + v).natAbs ≤ 4611686018427387904 ∧ e.natAbs ≤ 4611686018427387904 ∧ w.natAbs ≤ 4611686018427387904 ∧ (w - v).natAbs ≤ 4611686018427387904 ∧ (e - (u + v)).natAbs ≤ 4611686018427387904 := by
  refine ⟨by omega, by omega, by omega, by omega, by omega, by omega, by omega⟩
theorem bds2 (x e a : Int) (u v : Int) (P Q : Nat) (hx : x = u + v) (b1 : u.natAbs ≤ Q * 100) (b2 : v.natAbs ≤ 100 * P) (b3 : e.natAbs ≤ P * 100) (he : 1 ≤ e) (a1 : 1 ≤ a) (a2 : a ≤ e) (m : Int) (hm : m.natAbs ≤ x.natAbs) : a.natAbs ≤ P * 100 ∧ m.natAbs ≤ 100 * Q + P * 100 := by
  refine ⟨by omega, by omega⟩
theorem parts_l (l : List Rt) (hc : (1 ≤ l.length ∧ l.length ≤ 6) ∧ ∀ x ∈ l, 1 ≤ x.f0 ∧ x.f0 ≤ 100 ∧ 1 ≤ x.f1 ∧ x.f1 ≤ 100) (m : Nat) : ∀ (i : Nat) (n d : Int), i ≤ l.length → l.length - i ≤ m → 1 ≤ d → d.natAbs ≤ 100 ^ i → n.natAbs ≤ i * 100 ^ i →
    ∃ n' d' : Int, (1 ≤ d' ∧ d' ≤ 1000000000000 ∧ n'.natAbs ≤ 6000000000000) ∧ Ev (fun k => spec_raParts.l0 k n d l (l.length : Int) (i : Int)) (n', d') ∧ Ev (fun k => impl_restOf.l0 k (d - n) d l (l.length : Int) (i : Int)) (d' - n', d') := by
  have stop : ∀ n d : Int, 1 ≤ d → d.natAbs ≤ 100 ^ l.length → n.natAbs ≤ l.length * 100 ^ l.length → ∃ n' d' : Int, (1 ≤ d' ∧ d' ≤ 1000000000000 ∧ n'.natAbs ≤ 6000000000000) ∧ Ev (fun k => spec_raParts.l0 k n d l (l.length : Int) (l.length : Int)) (n', d') ∧ Ev (fun k => impl_restOf.l0 k (d - n) d l (l.length : Int) (l.length : Int)) (d' - n', d') := by
    intro n d h1 h2 h3
    have h4 : 100 ^ l.length ≤ 1000000000000 := Nat.le_trans (Nat.pow_le_pow_right (by decide) hc.1.2) (by decide)
    have h5 : l.length * 100 ^ l.length ≤ 6000000000000 := Nat.le_trans (Nat.mul_le_mul hc.1.2 h4) (by decide)
    refine ⟨n, d, ⟨h1, by omega, by omega⟩, ?_, ?_⟩
    · exact Ev.step (f := fun k => _) (fun k => by rw [spec_raParts.l0]) (ifn (by omega) now)
    · exact Ev.step (f := fun k => _) (fun k => by rw [impl_restOf.l0]) (ifn (by omega) now)
  induction m with
  | zero =>
    intro i n d h1 h2
    obtain rfl : i = l.length := by omega
    exact stop n d
  | succ m ih =>
    intro i n d h1 h2 h3 h4 h5
    by_cases hi : i < l.length
    · obtain ⟨p1, p2, p3, p4⟩ := pw i (by omega)
      have hx := hc.2 l[i] (List.getElem_mem hi)
      have b1 := mulb n l[i].f1 _ 100 h5 (by omega)
      have b2 := mulb l[i].f0 d 100 _ (by omega) h4
      have b3 := mulb d l[i].f1 _ 100 h4 (by omega)
      have b4 := mulb (d - n) l[i].f1 (100 ^ i + i * 100 ^ i) 100 (by omega) (by omega)
      have pos : 1 ≤ d * l[i].f1 := by
        have := Int.mul_pos (show 0 < d by omega) (show 0 < l[i].f1 by omega)
        omega
      have e1 : (d - n) * l[i].f1 - l[i].f0 * d = d * l[i].f1 - (n * l[i].f1 + l[i].f0 * d) := by
        rw [Int.sub_mul]; omega
      have ne : d * l[i].f1 ≠ 0 := Int.ne_of_gt (Int.lt_of_lt_of_le (by decide) pos)
      obtain ⟨B1, B2, B3, B4, B5, B6, B7⟩ := bds _ _ _ _ _ _ p3 p4 b1 b2 b3 b4
      have c1 := low_compl (n * l[i].f1 + l[i].f0 * d) (d * l[i].f1) pos
      have c2 := lowD_pos (n * l[i].f1 + l[i].f0 * d) (d * l[i].f1) ne
      have c3 := lowD_le (n * l[i].f1 + l[i].f0 * d) (d * l[i].f1) ne
      rw [if_neg (Int.not_lt.2 (Int.le_trans (by decide) pos))] at c3
      have c4 := lowN_abs (n * l[i].f1 + l[i].f0 * d) (d * l[i].f1) ne
      obtain ⟨C1, C2⟩ := bds2 _ _ _ _ _ _ _ rfl b1 b2 b3 pos c2 c3 _ c4
      obtain ⟨n', d', hb, g1, g2⟩ := ih (i + 1) (lowN (n * l[i].f1 + l[i].f0 * d) (d * l[i].f1)) (lowD (n * l[i].f1 + l[i].f0 * d) (d * l[i].f1)) (by omega) (by omega) c2 (by rw [p1]; exact C1) (by rw [p2]; exact C2)
      clear b1 b2 b3 b4 C1 C2 c2 c3 c4 p1 p2 p3 p4 h4 h5 ih stop
      refine ⟨n', d', hb, ?_, ?_⟩
      · refine Ev.step (f := fun k => _) (fun k => by rw [spec_raParts.l0]) (ifp (by omega) (ifp (by omega) (ifp (by omega) ?_)))
        rw [rdR_get l i hi, w62 _ B1, w62 _ B2, w62 _ B3, w62 _ B4, w64 ((i : Int) + 1) (by omega)]
        exact Ev.bind (raLow _ _ B3 B4 ne) g1
      · refine Ev.step (f := fun k => _) (fun k => by rw [impl_restOf.l0]) (ifp (by omega) (ifp (by omega) (ifp (by omega) ?_)))
        rw [rdR_get l i hi, w62 _ B5, w62 _ B2, w62 _ B6, w62 _ B4, w64 ((i : Int) + 1) (by omega), e1]
        have q := quotient (d * l[i].f1 - (n * l[i].f1 + l[i].f0 * d)) (d * l[i].f1) B7 B4 ne
        rw [c1.1, c1.2] at q
        exact Ev.bind q g2
    · obtain rfl : i = l.length := by omega
      exact stop n d h3 h4 h5
theorem parts (l : List Rt) (hc : chain l = true) : ∃ n d : Int, (1 ≤ d ∧ d ≤ 1000000000000 ∧ n.natAbs ≤ 6000000000000) ∧ Ev (fun k => spec_raParts.f k l) (n, d) ∧ Ev (fun k => impl_restOf.f k l) (d - n, d) :=
  parts_l l ((chain_iff l).1 hc) _ 0 0 1 (by omega) (Nat.le_refl _) (by omega) (by decide) (by decide)
/-- Both sides tell the same of what is a life, and of what is left of it. -/
theorem life (l : List Rt) (hl : l.length ≤ 1073741824) : (Ev (fun k => spec_raLife.f k l) false ∧ Ev (fun k => impl_areParts.f k l) false) ∨ (chain l = true ∧ ∃ n d : Int, (1 ≤ d ∧ d ≤ 1000000000000 ∧ n.natAbs ≤ 6000000000000 ∧ n < d) ∧ Ev (fun k => spec_raParts.f k l) (n, d) ∧ Ev (fun k => impl_restOf.f k l) (d - n, d) ∧ Ev (fun k => spec_raLife.f k l) true ∧ Ev (fun k => impl_areParts.f k l) true) := by
  unfold spec_raLife.f impl_areParts.f
  have h1 := raChain l hl
  have h2 := areRatios l
  cases hc : chain l with
  | false =>
    rw [hc] at h1 h2
    exact .inl ⟨Ev.bind h1 (ifn (by simp) now), call h2 (ifn (by simp) now)⟩
  | true =>
    rw [hc] at h1 h2
    obtain ⟨n, d, hb, e1, e2⟩ := parts l hc
    by_cases hn : n < d
    · refine .inr ⟨rfl, n, d, ⟨hb.1, hb.2.1, hb.2.2, hn⟩, e1, e2, Ev.bind h1 (ifp rfl (Ev.bind e1 (evEq now ?_))), call h2 (ifp rfl (Ev.bind e2 (evEq now ?_)))⟩
      · simpa using hn
      · simp; omega
    · refine .inl ⟨Ev.bind h1 (ifp rfl (Ev.bind e1 (evEq now ?_))), call h2 (ifp rfl (Ev.bind e2 (evEq now ?_)))⟩
      · simpa using hn
      · simp; omega
end Go.Proofs.Ytnbolemfldmohaa.Pr
