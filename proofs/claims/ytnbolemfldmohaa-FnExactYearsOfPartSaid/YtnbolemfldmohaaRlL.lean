/- How long a life is, on both sides. Condition: fewer than 2^30 parts. -/
import Derived.Test.YtnbolemfldmohaaPx1
import Derived.Test.YtnbolemfldmohaaPx6
import Derived.Test.YtnbolemfldmohaaRlP
namespace Go.Proofs.Ytnbolemfldmohaa.Pr
open Go.RowKit Go.Proofs.Ytnbolemfldmohaa.P Go.Proofs.YtnbolemfldmohaaW.PrintWords Go.Proofs.Ytnbolemfldmohaa.E Go.Proofs.Ytnbolemfldmohaa.Mth
theorem LifeOf_both (l : List Rt) (hl : l.length ≤ 1073741824) (a : Int) : ∃ v, (v.2.2 = true → chain l = true ∧ v.1.natAbs ≤ 200000000000000 ∧ 1 ≤ v.2.1 ∧ v.2.1 ≤ 7000000000000) ∧ Ev (fun k => spec_LifeOf.f k l a) v ∧ Ev (fun k => impl_LifeOf.f k l a) v := by
  unfold spec_LifeOf.f impl_LifeOf.f
  rcases life l hl with ⟨e1, e2⟩ | ⟨hc, n, d, hb, p1, p2, e1, e2⟩
  · refine ⟨(0, 0, false), by simp, Ev.bind e1 (ifn (by simp) ?_), Ev.bind e2 (ifn (by simp) ?_)⟩
    · exact Ev.step (f := fun k => _) (fun k => by rw [spec_LifeOf.j0]) (ifp rfl now)
    · exact Ev.step (f := fun k => _) (fun k => by rw [impl_LifeOf.j0]) (ifp rfl now)
  · by_cases ha : 1 ≤ a ∧ a ≤ 200
    · have b1 := mulb a d 200 1000000000000 (by omega) (by omega)
      have ne : d - n ≠ 0 := by omega
      have c1 := lowN_abs (a * d) (d - n) ne
      have c2 := lowD_pos (a * d) (d - n) ne
      have c3 := lowD_le (a * d) (d - n) ne
      rw [if_neg (by omega)] at c3
      refine ⟨(lowN (a * d) (d - n), lowD (a * d) (d - n), true), fun _ => ⟨hc, show (lowN (a * d) (d - n)).natAbs ≤ _ by omega, c2, show lowD (a * d) (d - n) ≤ _ by omega⟩, Ev.bind e1 (ifp rfl (call (l1In _ _ _) ?_)), Ev.bind e2 (ifp rfl (call (between _ _ _) ?_))⟩
      · refine Ev.step (f := fun k => _) (fun k => by rw [spec_LifeOf.j0]) (ifn (by simpa using ha) (Ev.bind p1 ?_))
        rw [w62 (a * d) (by omega), w62 (d - n) (by omega)]
        exact Ev.bind (raLow _ _ (by omega) (by omega) ne) now
      · refine Ev.step (f := fun k => _) (fun k => by rw [impl_LifeOf.j0]) (ifn (by simpa using ha) (Ev.bind p2 ?_))
        rw [w62 (a * d) (by omega)]
        exact Ev.bind (quotient _ _ (by omega) (by omega) ne) now
    · refine ⟨(0, 0, false), by simp, Ev.bind e1 (ifp rfl (call (l1In _ _ _) ?_)), Ev.bind e2 (ifp rfl (call (between _ _ _) ?_))⟩
      · exact Ev.step (f := fun k => _) (fun k => by rw [spec_LifeOf.j0]) (ifp (by rw [decide_eq_false ha]; rfl) now)
      · exact Ev.step (f := fun k => _) (fun k => by rw [impl_LifeOf.j0]) (ifp (by rw [decide_eq_false ha]; rfl) now)
end Go.Proofs.Ytnbolemfldmohaa.Pr
