/- Chains of ratios in plain words, and the closed forms of both sides' tests whether a list is one. Condition: fewer than 2^30 ratios. -/
import Derived.Test.YtnbolemfldmohaaPxHimplqareRatios
import Derived.Test.YtnbolemfldmohaaPx2
import Derived.Test.YtnbolemfldmohaaRlK
import Derived.Test.YtnbolemfldmohaaLwA
namespace Go.Proofs.Ytnbolemfldmohaa.Pr
open Go.RowKit Go.Proofs.Ytnbolemfldmohaa.P Go.Proofs.YtnbolemfldmohaaW.PrintWords Go.Proofs.Ytnbolemfldmohaa.E
theorem one_iff (x : Rt) : impl_areRatios.one x = true ↔ 1 ≤ x.f0 ∧ x.f0 ≤ 100 ∧ 1 ≤ x.f1 ∧ x.f1 ≤ 100 := by unfold impl_areRatios.one; simp; omega
theorem one_good (x : Rt) : impl_areRatios.one x = good x.f0 x.f1 := by rw [Bool.eq_iff_iff, one_iff, good_iff]
/-- Is it a chain of ratios? -/
def chain (l : List Rt) : Bool := decide (1 ≤ l.length ∧ l.length ≤ 6) && l.all impl_areRatios.one
theorem chain_iff (l : List Rt) : chain l = true ↔ (1 ≤ l.length ∧ l.length ≤ 6) ∧ ∀ x ∈ l, 1 ≤ x.f0 ∧ x.f0 ≤ 100 ∧ 1 ≤ x.f1 ∧ x.f1 ≤ 100 := by
  unfold chain
  rw [Bool.and_eq_true, decide_eq_true_iff, List.all_eq_true]
  simp only [one_iff]
theorem areRatios (l : List Rt) : impl_areRatios.f l = some (chain l) := rfl
theorem raChain_l (l : List Rt) (hl : l.length ≤ 1073741824) (n : Nat) : ∀ i : Nat, i ≤ l.length → l.length - i ≤ n → Ev (fun k => spec_raChain.l0 k l (l.length : Int) (i : Int)) ((l.drop i).all impl_areRatios.one) := by
  have stop : Ev (fun k => spec_raChain.l0 k l (l.length : Int) (l.length : Int)) ((l.drop l.length).all impl_areRatios.one) := by
    refine Ev.step (f := fun k => _) (fun k => by rw [spec_raChain.l0]) (ifn (by omega) (evEq now ?_))
    simp
  induction n with
  | zero =>
    intro i h1 h2
    obtain rfl : i = l.length := by omega
    exact stop
  | succ n ih =>
    intro i h1 h2
    by_cases hi : i < l.length
    · refine Ev.step (f := fun k => _) (fun k => by rw [spec_raChain.l0]) (ifp (by omega) (ifp (by omega) (ifp (by omega) ?_)))
      rw [rdR_get l i hi, w64 _ (by omega), List.drop_eq_getElem_cons hi, List.all_cons, one_good]
      refine call (raGood _ _) ?_
      cases h : good l[i].f0 l[i].f1 with
      | true => exact ifp rfl (evEq (ih (i + 1) (by omega) (by omega)) (by simp))
      | false => exact ifn (by simp) (evEq now (by simp))
    · obtain rfl : i = l.length := by omega
      exact stop
theorem raChain (l : List Rt) (hl : l.length ≤ 1073741824) : Ev (fun k => spec_raChain.f k l) (chain l) := by
  unfold spec_raChain.f chain
  refine call (l1In _ _ _) ?_
  by_cases h : 1 ≤ l.length ∧ l.length ≤ 6
  · refine ifp (by simp; omega) (evEq (raChain_l l hl _ 0 (by omega) (Nat.le_refl _)) ?_)
    rw [decide_eq_true h]; simp
  · refine ifn (by simp; omega) (evEq now ?_)
    rw [decide_eq_false h]; simp
end Go.Proofs.Ytnbolemfldmohaa.Pr
