/- The loop that picks the one with most children, on both sides. Condition: fewer than 2^30 kin. -/
import Derived.Test.YtooeliiolcolaaaPx2
import Derived.Test.YtooeliiolcolaaaPx7
import Derived.Test.YtooeliiolcolaaaFaK
namespace Go.Proofs.Ytooeliiolcolaaa.Pr
open Go.RowKit Go.Proofs.Ytooeliiolcolaaa.P Go.Proofs.YtooeliiolcolaaaW.PrintWords Go.Proofs.Ytooeliiolcolaaa.E
theorem most_l (l : List Kn) (hl : l.length ≤ 1073741824) (n : Nat) : ∀ (i : Nat) (a b : Int), i ≤ l.length → l.length - i ≤ n → ∃ v, Ev (fun k => spec_MostChildren.l0 k l a b (l.length : Int) (i : Int)) v ∧ Ev (fun k => impl_MostChildren.l0 k l a b (l.length : Int) (i : Int)) v := by
  have stop : ∀ a b : Int, ∃ v, Ev (fun k => spec_MostChildren.l0 k l a b (l.length : Int) (l.length : Int)) v ∧ Ev (fun k => impl_MostChildren.l0 k l a b (l.length : Int) (l.length : Int)) v := by
    intro a b
    refine ⟨(a, b, true), ?_, ?_⟩
    · exact Ev.step (f := fun k => _) (fun k => by rw [spec_MostChildren.l0]) (ifn (by omega) now)
    · exact Ev.step (f := fun k => _) (fun k => by rw [impl_MostChildren.l0]) (ifn (by omega) now)
  induction n with
  | zero =>
    intro i a b h1 h2
    obtain rfl : i = l.length := by omega
    exact stop a b
  | succ n ih =>
    intro i a b h1 h2
    by_cases hi : i < l.length
    · by_cases hc : ((kids l i).length : Int) > b
      · obtain ⟨v, e1, e2⟩ := ih (i + 1) i ((kids l i).length : Int) (by omega) (by omega)
        refine ⟨v, ?_, ?_⟩
        · refine Ev.step (f := fun k => _) (fun k => by rw [spec_MostChildren.l0]) (ifp (by omega) (Ev.bind (faChildren l hl i) (ifp hc ?_)))
          rw [w64 _ (by omega)]; exact e1
        · refine Ev.step (f := fun k => _) (fun k => by rw [impl_MostChildren.l0]) (ifp (by omega) (Ev.bind (children l hl i) (ifp hc ?_)))
          rw [w64 _ (by omega)]; exact e2
      · obtain ⟨v, e1, e2⟩ := ih (i + 1) a b (by omega) (by omega)
        refine ⟨v, ?_, ?_⟩
        · refine Ev.step (f := fun k => _) (fun k => by rw [spec_MostChildren.l0]) (ifp (by omega) (Ev.bind (faChildren l hl i) (ifn hc ?_)))
          rw [w64 _ (by omega)]; exact e1
        · refine Ev.step (f := fun k => _) (fun k => by rw [impl_MostChildren.l0]) (ifp (by omega) (Ev.bind (children l hl i) (ifn hc ?_)))
          rw [w64 _ (by omega)]; exact e2
    · obtain rfl : i = l.length := by omega
      exact stop a b
end Go.Proofs.Ytooeliiolcolaaa.Pr
