/- The program's YearsOfPart tells what the reference's tells, for all parts and years, and leaves what it is handed. No condition. -/
import Derived.Test.YtnbolemfldmohaaPx6
import Derived.Test.YtnbolemfldmohaaRlL
namespace Go.Proofs.Ytnbolemfldmohaa.Pure
open Go.RowKit Go.Proofs.Ytnbolemfldmohaa.P Go.Proofs.Ytnbolemfldmohaa.Pr Go.Proofs.Ytnbolemfldmohaa.E Go.Proofs.YtnbolemfldmohaaW.PrintWords Go.Proofs.Ytnbolemfldmohaa.Mth
theorem YearsOfPart_both (l : List Rt) (hl : l.length ≤ 1048576) (a b : Int) : ∃ v, Ev (fun k => spec_YearsOfPart.f k l a b) v ∧ Ev (fun k => impl_YearsOfPart.f k l a b) v := by
  unfold spec_YearsOfPart.f impl_YearsOfPart.f
  obtain ⟨⟨x, y, ok⟩, hv, e1, e2⟩ := LifeOf_both l (by omega) a
  cases ok with
  | false => exact ⟨(0, 0, false), Ev.bind e1 (ifn (by simp) now), Ev.bind e2 (ifn (by simp) now)⟩
  | true =>
    obtain ⟨hc, h1, h2, h3⟩ := hv rfl
    change x.natAbs ≤ _ at h1
    change 1 ≤ y at h2
    change y ≤ _ at h3
    by_cases hb : 0 ≤ b ∧ b ≤ (l.length : Int) - 1
    · have hm := ((chain_iff l).1 hc).2
      have hi : b.toNat < l.length := by omega
      have hr := rdR_get l b.toNat hi
      rw [Int.toNat_of_nonneg hb.1] at hr
      have hx := hm _ (List.getElem_mem hi)
      generalize l[b.toNat] = r at hr hx
      have b1 := mulb x r.f0 200000000000000 100 h1 (by omega)
      have b2 := mulb y r.f1 7000000000000 100 (by omega) (by omega)
      have pos := Int.mul_pos (show 0 < y by omega) (show 0 < r.f1 by omega)
      have ne : y * r.f1 ≠ 0 := by omega
      refine ⟨(lowN (x * r.f0) (y * r.f1), lowD (x * r.f0) (y * r.f1), true), Ev.bind e1 (ifp rfl (call (l1In _ _ _) ?_)), Ev.bind e2 (ifp rfl (call (between _ _ _) ?_))⟩
      · refine ifp (by rw [w64 _ (by omega)]; simpa using hb) (ifp hb.1 (ifp (by omega) ?_))
        rw [hr, w62 (x * r.f0) (by omega), w62 (y * r.f1) (by omega)]
        exact Ev.bind (raLow _ _ (by omega) (by omega) ne) now
      · refine ifp (by rw [w64 _ (by omega)]; simpa using hb) (ifp hb.1 (ifp (by omega) ?_))
        rw [hr, w62 (x * r.f0) (by omega), w62 (y * r.f1) (by omega)]
        exact Ev.bind (quotient _ _ (by omega) (by omega) ne) now
    · refine ⟨(0, 0, false), Ev.bind e1 (ifp rfl (call (l1In _ _ _) ?_)), Ev.bind e2 (ifp rfl (call (between _ _ _) ?_))⟩
      · exact ifn (by rw [w64 _ (by omega)]; simpa using hb) now
      · exact ifn (by rw [w64 _ (by omega)]; simpa using hb) now
theorem FnExactYearsOfPart : laws_FnExactYearsOfPart.Pure := by
  intro l a b hl hb _ _ _
  refine Ev.rounds ?_
  unfold laws_FnExactYearsOfPart.f
  refine call (szRatioS l (by omega)) ?_
  by_cases hs : l.length ≤ 1048576
  · have hl' : l.length ≤ 1099511627776 := by omega
    have hcl : (conv l).length ≤ 1048576 := by rw [conv_length]; exact hs
    have hc' : (conv l).length ≤ 1099511627776 := by omega
    rw [if_pos hs]
    refine ifn (by omega) ?_
    obtain ⟨v, e1, e2⟩ := YearsOfPart_both (conv l) hcl a b
    refine Ev.bind (toRatioS l hl') (Ev.bind e1 (Ev.bind (toRatioS l hl') (Ev.bind e2 ?_)))
    refine ifp rfl (ifp rfl ?_)
    refine Ev.step (f := fun k => _) (fun k => by rw [laws_FnExactYearsOfPart.j0]) (ifn (by simp) ?_)
    exact Ev.bind (toRatioS l hl') (Ev.bind (eqRatioS (conv l) hc') (ifp rfl now))
  · rw [if_neg hs]
    exact ifp (by omega) now
end Go.Proofs.Ytnbolemfldmohaa.Pure
