/- Closed forms: the ages of two by their ratios now and in some years, on both sides. No condition. -/
import Derived.Test.YtkjmiamldajcbaaPx15
import Derived.Test.YtkjmiamldajcbaaPx14
import Derived.Test.YtkjmiamldajcbaaPrC
namespace Go.Proofs.Ytkjmiamldajcbaa.Pr
open Go.RowKit Go.Proofs.Ytkjmiamldajcbaa.P Go.Proofs.YtkjmiamldajcbaaW.PrintWords Go.Proofs.YtkjmiamldajcbaaW.PrintMore Go.Proofs.Ytkjmiamldajcbaa.E Go.Proofs.Ytkjmiamldajcbaa.Mth
theorem three_neg (n1 n2 d : Int) (h : d ≠ 0) : three (-n1) (-n2) (-d) = three n1 n2 d := by
  unfold three
  rw [lowN_neg n1 d h, lowN_neg n2 d h, lowD_neg n1 d h, lowD_neg n2 d h]
theorem three_bd (n1 n2 d : Int) (hn1 : n1.natAbs ≤ 2000000) (hn2 : n2.natAbs ≤ 2000000) (hd : d.natAbs ≤ 10000) (h : d ≠ 0) : (three n1 n2 d).1.natAbs ≤ 20000000000 ∧ (three n1 n2 d).2.1.natAbs ≤ 20000000000 ∧ 1 ≤ (three n1 n2 d).2.2 ∧ (three n1 n2 d).2.2 ≤ 100000000 := by
  have b1 := lowD_bd n1 d h hd
  have b2 := lowD_bd n2 d h hd
  have a1 := lowN_abs n1 d h
  have a2 := lowN_abs n2 d h
  have hl := lcm_bd _ _ b1 b2
  unfold three
  have m1 := mulb _ _ 2000000 10000 (show (lowN n1 d).natAbs ≤ 2000000 by omega) hl.2.2.1
  have m2 := mulb _ _ 2000000 10000 (show (lowN n2 d).natAbs ≤ 2000000 by omega) hl.2.2.2.1
  exact ⟨by omega, by omega, by show 1 ≤ lcm _ _; omega, by show lcm _ _ ≤ _; omega⟩
theorem pos_mul_iff (x c : Int) (hc : 1 ≤ c) : 0 < x * c ↔ 0 < x := by
  constructor
  · intro h
    rcases Int.lt_or_le 0 x with h1 | h1
    · exact h1
    · have := Int.mul_le_mul_of_nonneg_right h1 (show 0 ≤ c by omega)
      omega
  · intro h; exact Int.mul_pos h (by omega)
theorem lowN_pos_iff (n d : Int) (h : 0 < d) : 0 < lowN n d ↔ 0 < n := by
  have e := low_mul_N n d (by omega)
  rw [if_neg (by omega)] at e
  rw [← pos_mul_iff (lowN n d) (g n d) (g_pos n d (by omega)), e]
theorem part_ge (y v : Int) (hy : 1 ≤ y) (hv : 1 ≤ v) : 1 ≤ lcm y v / y ∧ 1 ≤ lcm y v / v := by
  constructor
  · rw [lcm_eq, Int.mul_ediv_cancel_left _ (by omega)]; exact (part_pos y v hv).1
  · rw [show lcm y v = y / g y v * v from rfl, Int.mul_ediv_cancel _ (by omega)]; exact (part_pos_l y v hy hv).1
/-- Both ages are greater than 0 just where the numerator is. -/
theorem three_pos (p q s d : Int) (hp : 1 ≤ p) (hq : 1 ≤ q) (h : 0 < d) : (0 < (three (p * s) (q * s) d).1 ↔ 0 < s) ∧ (0 < (three (p * s) (q * s) d).2.1 ↔ 0 < s) := by
  have hy := lowD_pos (p * s) d (by omega)
  have hv := lowD_pos (q * s) d (by omega)
  have hg := part_ge _ _ hy hv
  unfold three
  refine ⟨?_, ?_⟩
  · rw [pos_mul_iff _ _ hg.1, lowN_pos_iff _ _ h, Int.mul_comm, pos_mul_iff _ _ hp]
  · rw [pos_mul_iff _ _ hg.2, lowN_pos_iff _ _ h, Int.mul_comm, pos_mul_iff _ _ hq]
/-- What both sides come to: the ratios now p : q and then u : v, the years y. -/
def twoV (p q u v y : Int) : Int × Int × Int × Bool :=
  if v * p - u * q ≠ 0 ∧ 0 < min (three (p * ((u - v) * y)) (q * ((u - v) * y)) (v * p - u * q)).1 (three (p * ((u - v) * y)) (q * ((u - v) * y)) (v * p - u * q)).2.1 ∧
     0 < min (three (p * ((u - v) * y)) (q * ((u - v) * y)) (v * p - u * q)).1 (three (p * ((u - v) * y)) (q * ((u - v) * y)) (v * p - u * q)).2.1 + (three (p * ((u - v) * y)) (q * ((u - v) * y)) (v * p - u * q)).2.2 * y
  then ((three (p * ((u - v) * y)) (q * ((u - v) * y)) (v * p - u * q)).1, (three (p * ((u - v) * y)) (q * ((u - v) * y)) (v * p - u * q)).2.1, (three (p * ((u - v) * y)) (q * ((u - v) * y)) (v * p - u * q)).2.2, true) else (0, 0, 0, false)
theorem impl_two (p q u v y : Int) (h1 : good p q = true) (h2 : good u v = true) (hy : y.natAbs ≤ 120) : Ev (fun k => impl_agesFromTwo.f k p q u v y) (twoV p q u v y) := by
  have g1 := (good_iff p q).1 h1
  have g2 := (good_iff u v).1 h2
  have m1 := mulb v p 100 100 (by omega) (by omega)
  have m2 := mulb u q 100 100 (by omega) (by omega)
  have m3 := mulb (u - v) y 99 120 (by omega) hy
  have m4 := mulb p ((u - v) * y) 100 _ (by omega) m3
  have m5 := mulb q ((u - v) * y) 100 _ (by omega) m3
  have vp : 0 < v * p := Int.mul_pos (by omega) (by omega)
  have uq : 0 < u * q := Int.mul_pos (by omega) (by omega)
  unfold impl_agesFromTwo.f twoV
  rw [w64 (v * p) (by omega), w64 (u * q) (by omega), w64 (v * p - u * q) (by omega), w64 (u - v) (by omega), w64 ((u - v) * y) (by omega), w64 (p * _) (by omega), w64 (q * _) (by omega)]
  by_cases h0 : v * p - u * q = 0
  · refine ifp h0 ?_
    rw [if_neg (fun h => h.1 h0)]; exact now
  · have b := three_bd (p * ((u - v) * y)) (q * ((u - v) * y)) (v * p - u * q) (by omega) (by omega) (by omega) h0
    refine ifn h0 (Ev.bind (twoAges _ _ _ (by omega) (by omega) (by omega) h0) ?_)
    generalize three (p * ((u - v) * y)) (q * ((u - v) * y)) (v * p - u * q) = T at b ⊢
    obtain ⟨a, b', c⟩ := T
    dsimp only at b ⊢
    have m6 := mulb c y 100000000 120 (by omega) hy
    rw [mn_, w64 (c * y) (by omega), w64 (min a b' + c * y) (by omega)]
    by_cases h3 : min a b' ≤ 0
    · refine ifp h3 ?_
      rw [if_neg (by intro h; omega)]; exact now
    · refine ifn h3 ?_
      by_cases h4 : min a b' + c * y ≤ 0
      · refine ifp h4 ?_
        rw [if_neg (by intro h; omega)]; exact now
      · refine ifn h4 ?_
        rw [if_pos ⟨h0, by omega, by omega⟩]; exact now
theorem spec_two_j2 (p q s d y : Int) (x : Bool) (hp : 1 ≤ p ∧ p ≤ 100) (hq : 1 ≤ q ∧ q ≤ 100) (hs : s.natAbs ≤ 11880) (hd : d.natAbs ≤ 10000) (hy : y.natAbs ≤ 120) (hd0 : 0 ≤ d) (hx : x = decide (d = 0 ∨ s ≤ 0)) :
    Ev (fun k => spec_AgesFromTwo.j2 k y d s x p q) (if d ≠ 0 ∧ 0 < min (three (p * s) (q * s) d).1 (three (p * s) (q * s) d).2.1 ∧ 0 < min (three (p * s) (q * s) d).1 (three (p * s) (q * s) d).2.1 + (three (p * s) (q * s) d).2.2 * y
      then ((three (p * s) (q * s) d).1, (three (p * s) (q * s) d).2.1, (three (p * s) (q * s) d).2.2, true) else (0, 0, 0, false)) := by
  have m4 := mulb p s 100 _ (by omega) hs
  have m5 := mulb q s 100 _ (by omega) hs
  refine Ev.step (f := fun k => _) (fun k => by rw [spec_AgesFromTwo.j2]) ?_
  subst hx
  by_cases h0 : d = 0 ∨ s ≤ 0
  · refine ifp (by simpa using h0) (evEq now ?_)
    by_cases h1 : d = 0
    · rw [if_neg (fun h => h.1 h1)]
    · have hs0 : s ≤ 0 := by omega
      have := (three_pos p q s d hp.1 hq.1 (by omega)).1
      rw [if_neg (by intro h; have := this.1 (by omega); omega)]
  · have h1 : d ≠ 0 := fun h => h0 (.inl h)
    have h2 : 0 < s := by omega
    have hpos := three_pos p q s d hp.1 hq.1 (by omega)
    have b := three_bd (p * s) (q * s) d (by omega) (by omega) hd h1
    refine ifn (by simpa using h0) ?_
    rw [w64 (p * s) (by omega), w64 (q * s) (by omega)]
    refine Ev.bind (raThree _ _ _ (by omega) (by omega) hd h1) ?_
    have p1 := hpos.1.2 h2
    have p2 := hpos.2.2 h2
    clear hpos
    generalize three (p * s) (q * s) d = T at b p1 p2 ⊢
    obtain ⟨a, b', c⟩ := T
    dsimp only at b p1 p2 ⊢
    have m6 := mulb y c 120 100000000 hy (by omega)
    rw [w64 (y * c) (by omega), w64 (a + y * c) (by omega), w64 (b' + y * c) (by omega), Int.mul_comm c y]
    by_cases h3 : a + y * c ≤ 0
    · refine ifp h3 ?_
      rw [if_neg (by intro h; omega)]; exact now
    · refine ifn h3 ?_
      by_cases h4 : b' + y * c ≤ 0
      · refine ifp h4 ?_
        rw [if_neg (by intro h; omega)]; exact now
      · refine ifn h4 ?_
        rw [if_pos ⟨h1, by omega, by omega⟩]; exact now
theorem spec_two_j1 (p q s d y : Int) (hp : 1 ≤ p ∧ p ≤ 100) (hq : 1 ≤ q ∧ q ≤ 100) (hs : s.natAbs ≤ 11880) (hd : d.natAbs ≤ 10000) (hy : y.natAbs ≤ 120) (hd0 : 0 ≤ d) :
    Ev (fun k => spec_AgesFromTwo.j1 k y d s p q) (if d ≠ 0 ∧ 0 < min (three (p * s) (q * s) d).1 (three (p * s) (q * s) d).2.1 ∧ 0 < min (three (p * s) (q * s) d).1 (three (p * s) (q * s) d).2.1 + (three (p * s) (q * s) d).2.2 * y
      then ((three (p * s) (q * s) d).1, (three (p * s) (q * s) d).2.1, (three (p * s) (q * s) d).2.2, true) else (0, 0, 0, false)) := by
  refine Ev.step (f := fun k => _) (fun k => by rw [spec_AgesFromTwo.j1]) ?_
  by_cases h : d = 0
  · exact ifp h (spec_two_j2 p q s d y true hp hq hs hd hy hd0 (by simp [h]))
  · exact ifn h (spec_two_j2 p q s d y _ hp hq hs hd hy hd0 (by simp [h]))
theorem spec_two_j0 (p q u v y : Int) (h1 : good p q = true) (h2 : good u v = true) (hy : y.natAbs ≤ 120) : Ev (fun k => spec_AgesFromTwo.j0 k y false p q u v) (twoV p q u v y) := by
  have g1 := (good_iff p q).1 h1
  have g2 := (good_iff u v).1 h2
  have m1 := mulb v p 100 100 (by omega) (by omega)
  have m2 := mulb u q 100 100 (by omega) (by omega)
  have m3 := mulb y (u - v) 120 99 hy (by omega)
  have vp : 0 < v * p := Int.mul_pos (by omega) (by omega)
  have uq : 0 < u * q := Int.mul_pos (by omega) (by omega)
  refine Ev.step (f := fun k => _) (fun k => by rw [spec_AgesFromTwo.j0]) (ifn (by simp) ?_)
  rw [w64 (v * p) (by omega), w64 (u * q) (by omega), w64 (v * p - u * q) (by omega), w64 (u - v) (by omega), w64 (y * (u - v)) (by omega), w64 (-(v * p - u * q)) (by omega), w64 (-(y * (u - v))) (by omega)]
  by_cases h : v * p - u * q < 0
  · refine ifp h (evEq (spec_two_j1 p q _ _ y (by omega) (by omega) (by omega) (by omega) hy (by omega)) ?_)
    rw [Int.mul_comm y (u - v), Int.mul_neg, Int.mul_neg, three_neg _ _ _ (by omega)]
    unfold twoV
    have e : -(v * p - u * q) ≠ 0 ↔ v * p - u * q ≠ 0 := by omega
    simp only [e]
  · refine ifn h (evEq (spec_two_j1 p q _ _ y (by omega) (by omega) (by omega) (by omega) hy (by omega)) ?_)
    rw [Int.mul_comm y (u - v)]
    rfl
theorem spec_two_no (p q u v y : Int) : Ev (fun k => spec_AgesFromTwo.j0 k y true p q u v) (0, 0, 0, false) := Ev.step (f := fun k => _) (fun k => by rw [spec_AgesFromTwo.j0]) (ifp rfl now)
def okTwo (p q u v y : Int) : Prop := good p q = true ∧ good u v = true ∧ (-120 ≤ y ∧ y ≤ 120) ∧ y ≠ 0
instance (p q u v y : Int) : Decidable (okTwo p q u v y) := by unfold okTwo; exact inferInstance
theorem spec_Two (p q u v y : Int) : Ev (fun k => spec_AgesFromTwo.f k p q u v y) (if okTwo p q u v y then twoV p q u v y else (0, 0, 0, false)) := by
  unfold spec_AgesFromTwo.f
  have no : ¬ okTwo p q u v y → Ev (fun k => spec_AgesFromTwo.j0 k y true p q u v) (if okTwo p q u v y then twoV p q u v y else (0, 0, 0, false)) := fun h => by
    rw [if_neg h]; exact spec_two_no p q u v y
  refine call (raGood p q) ?_
  by_cases h1 : good p q = true
  · refine ifp h1 (call (raGood u v) ?_)
    by_cases h2 : good u v = true
    · refine ifp h2 (call (l1In y _ _) ?_)
      by_cases h3 : -120 ≤ y ∧ y ≤ 120
      · refine ifp (by simpa using h3) ?_
        by_cases h4 : y = 0
        · rw [show (y == 0) = true by simp [h4]]; exact no fun h => h.2.2.2 h4
        · rw [show (y == 0) = false by simp [h4], if_pos ⟨h1, h2, h3, h4⟩]
          exact spec_two_j0 p q u v y h1 h2 (by omega)
      · exact ifn (by simpa using h3) (no fun h => h3 h.2.2.1)
    · exact ifn h2 (no fun h => h2 h.2.1)
  · exact ifn h1 (no fun h => h1 h.1)
end Go.Proofs.Ytkjmiamldajcbaa.Pr
