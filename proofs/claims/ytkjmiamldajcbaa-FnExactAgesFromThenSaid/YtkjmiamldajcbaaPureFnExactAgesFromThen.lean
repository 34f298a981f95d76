/- The program's AgesFromThen returns what the reference's returns, for all arguments. No condition. -/
import Derived.Test.YtkjmiamldajcbaaPx21
import Derived.Test.YtkjmiamldajcbaaPrT
namespace Go.Proofs.Ytkjmiamldajcbaa.Pure
open Go.RowKit Go.Proofs.Ytkjmiamldajcbaa.P Go.Proofs.Ytkjmiamldajcbaa.Pr Go.Proofs.YtkjmiamldajcbaaW.PrintWords Go.Proofs.Ytkjmiamldajcbaa.E Go.Proofs.Ytkjmiamldajcbaa.Mth
namespace AgesFromThen
def ok (p q u v x y : Int) : Prop := good p q = true ∧ good u v = true ∧ (1 ≤ x ∧ x ≤ 120) ∧ 1 ≤ y ∧ x + y ≤ 120
instance (p q u v x y : Int) : Decidable (ok p q u v x y) := by unfold ok; exact inferInstance
def val (p q u v x y : Int) : Int × Int × Int × Bool := if ok p q u v x y ∧ (twoV p q u v (x + y)).2.2.2 = true then ((twoV p q u v (x + y)).1 + x * (twoV p q u v (x + y)).2.2.1, (twoV p q u v (x + y)).2.1 + x * (twoV p q u v (x + y)).2.2.1, (twoV p q u v (x + y)).2.2.1, true) else (0, 0, 0, false)
theorem twoV_bd (p q u v y : Int) (h1 : good p q = true) (h2 : good u v = true) (hy : y.natAbs ≤ 120) : (twoV p q u v y).1.natAbs ≤ 20000000000 ∧ (twoV p q u v y).2.1.natAbs ≤ 20000000000 ∧ (twoV p q u v y).2.2.1.natAbs ≤ 100000000 := by
  have g1 := (good_iff p q).1 h1
  have g2 := (good_iff u v).1 h2
  have m1 := mulb v p 100 100 (by omega) (by omega)
  have m2 := mulb u q 100 100 (by omega) (by omega)
  have m3 := mulb (u - v) y 99 120 (by omega) hy
  have m4 := mulb p ((u - v) * y) 100 _ (by omega) m3
  have m5 := mulb q ((u - v) * y) 100 _ (by omega) m3
  have vp : 0 < v * p := Int.mul_pos (by omega) (by omega)
  have uq : 0 < u * q := Int.mul_pos (by omega) (by omega)
  unfold twoV
  split
  · rename_i h
    have b := three_bd (p * ((u - v) * y)) (q * ((u - v) * y)) (v * p - u * q) (by omega) (by omega) (by omega) h.1
    exact ⟨b.1, b.2.1, by dsimp only; omega⟩
  · exact ⟨by decide, by decide, by decide⟩
theorem spec_no (p q u v x y : Int) (h : ¬ ok p q u v x y) : Ev (fun k => spec_AgesFromThen.j0 k x y true p q u v) (val p q u v x y) := by
  unfold val; rw [if_neg (fun h2 => h h2.1)]
  exact Ev.step (f := fun k => _) (fun k => by rw [spec_AgesFromThen.j0]) (ifp rfl now)
theorem impl_no (p q u v x y : Int) (h : ¬ ok p q u v x y) : Ev (fun k => impl_AgesFromThen.j0 k x y true p q u v) (val p q u v x y) := by
  unfold val; rw [if_neg (fun h2 => h h2.1)]
  exact Ev.step (f := fun k => _) (fun k => by rw [impl_AgesFromThen.j0]) (ifp rfl now)
theorem spec_j (p q u v x y : Int) (hx : 1 ≤ x ∧ x ≤ 120) (hy : 1 ≤ y) (hxy : x + y ≤ 120) : Ev (fun k => spec_AgesFromThen.j0 k x y false p q u v) (val p q u v x y) := by
  refine Ev.step (f := fun k => _) (fun k => by rw [spec_AgesFromThen.j0]) (ifn (by simp) ?_)
  rw [w64 (x + y) (by omega)]
  refine Ev.bind (spec_Two p q u v (x + y)) ?_
  by_cases h : okTwo p q u v (x + y)
  · rw [if_pos h]
    have b := twoV_bd p q u v (x + y) h.1 h.2.1 (by omega)
    have m := mulb x (twoV p q u v (x + y)).2.2.1 120 100000000 (by omega) (by omega)
    have hok : ok p q u v x y := ⟨h.1, h.2.1, hx, hy, hxy⟩
    unfold val
    by_cases h2 : (twoV p q u v (x + y)).2.2.2 = true
    · refine ifp h2 (evEq ?_ (if_pos ⟨hok, h2⟩).symm)
      rw [w64 (x * _) (by omega), w64 _ (by omega), w64 _ (by omega)]
      exact now
    · exact ifn h2 (evEq now (if_neg (fun h3 => h2 h3.2)).symm)
  · rw [if_neg h]
    refine ifn (by simp) (evEq now ?_)
    unfold val; rw [if_neg (fun h2 => h ⟨h2.1.1, h2.1.2.1, by omega, by omega⟩)]
theorem spec_ (p q u v x y : Int) : Ev (fun k => spec_AgesFromThen.f k p q u v x y) (val p q u v x y) := by
  unfold spec_AgesFromThen.f
  refine call (l1In x _ _) ?_
  by_cases h1 : 1 ≤ x ∧ x ≤ 120
  · refine ifp (by simpa using h1) (call (l1In y _ _) ?_)
    by_cases h2 : 1 ≤ y ∧ y ≤ 120
    · refine ifp (by simpa using h2) ?_
      rw [w64 (x + y) (by omega)]
      by_cases h3 : x + y > 120
      · rw [decide_eq_true h3]; exact spec_no p q u v x y fun h => by have := h.2.2.2.2; omega
      · rw [decide_eq_false h3]; exact spec_j p q u v x y h1 h2.1 (by omega)
    · exact ifn (by simpa using h2) (spec_no p q u v x y fun h => h2 ⟨h.2.2.2.1, by have := h.2.2.2.2; omega⟩)
  · exact ifn (by simpa using h1) (spec_no p q u v x y fun h => h1 h.2.2.1)
theorem impl_ (p q u v x y : Int) : Ev (fun k => impl_AgesFromThen.f k p q u v x y) (val p q u v x y) := by
  unfold impl_AgesFromThen.f
  refine call (isRatio p q) ?_
  by_cases h1 : good p q = true
  · refine ifp h1 (call (isRatio u v) ?_)
    by_cases h2 : good u v = true
    · refine ifp h2 (call (between x _ _) ?_)
      by_cases h3 : 1 ≤ x ∧ x ≤ 120
      · refine ifp (by simpa using h3) ?_
        rw [w64 (120 - x) (by omega)]
        refine call (between y _ _) ?_
        by_cases h4 : 1 ≤ y ∧ y ≤ 120 - x
        · rw [decide_eq_true h4]
          have hok : ok p q u v x y := ⟨h1, h2, h3, h4.1, by omega⟩
          refine Ev.step (f := fun k => _) (fun k => by rw [impl_AgesFromThen.j0]) (ifn (by simp) ?_)
          rw [w64 (x + y) (by omega)]
          refine Ev.bind (impl_two p q u v (x + y) h1 h2 (by omega)) ?_
          have b := twoV_bd p q u v (x + y) h1 h2 (by omega)
          have m := mulb (twoV p q u v (x + y)).2.2.1 x 100000000 120 (by omega) (by omega)
          have e := Int.mul_comm (twoV p q u v (x + y)).2.2.1 x
          unfold val
          by_cases h5 : (twoV p q u v (x + y)).2.2.2 = true
          · refine ifp h5 (evEq ?_ (if_pos ⟨hok, h5⟩).symm)
            rw [w64 (_ * x) (by omega), w64 _ (by omega), w64 _ (by omega), e]
            exact now
          · exact ifn h5 (evEq now (if_neg (fun h3 => h5 h3.2)).symm)
        · rw [decide_eq_false h4]; exact impl_no p q u v x y fun h => h4 ⟨h.2.2.2.1, by have := h.2.2.2.2; omega⟩
      · exact ifn (by simpa using h3) (impl_no p q u v x y fun h => h3 h.2.2.1)
    · exact ifn h2 (impl_no p q u v x y fun h => h2 h.2.1)
  · exact ifn h1 (impl_no p q u v x y fun h => h1 h.1)
end AgesFromThen
theorem FnExactAgesFromThen : laws_FnExactAgesFromThen.Pure := by
  intro p q u v x y _ _ _ _ _ _
  refine Ev.rounds ?_
  unfold laws_FnExactAgesFromThen.f
  refine call (toRatio p q) (call (toRatio u v) (Ev.bind (AgesFromThen.spec_ p q u v x y) (call (toRatio p q) (call (toRatio u v) (Ev.bind (AgesFromThen.impl_ p q u v x y) ?_)))))
  exact ifp rfl (ifp rfl (ifp rfl (ifn (by simp) now)))
end Go.Proofs.Ytkjmiamldajcbaa.Pure
