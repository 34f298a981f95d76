/- The program's WholeRatioYears returns what the reference's returns, for all arguments. No condition. -/
import Derived.Test.YtkjmiamldajcbaaPx4
import Derived.Test.YtkjmiamldajcbaaPrC
import Derived.Test.YtkjmiamldajcbaaPrS
namespace Go.Proofs.Ytkjmiamldajcbaa.Pure
open Go.RowKit Go.Proofs.Ytkjmiamldajcbaa.P Go.Proofs.Ytkjmiamldajcbaa.Pr Go.Proofs.YtkjmiamldajcbaaW.PrintWords Go.Proofs.YtkjmiamldajcbaaW.PrintMore Go.Proofs.Ytkjmiamldajcbaa.E Go.Proofs.Ytkjmiamldajcbaa.Mth
namespace WholeRatioYears
theorem loop (o y : Int) (ho : 0 ≤ o ∧ o ≤ 120) (hy : 0 ≤ y ∧ y ≤ 120) (n : Nat) : ∀ (t : Int) (acc : List Int), 1 - y ≤ t → (121 - t).toNat ≤ n → acc.length + (121 - t).toNat ≤ 1000 →
    ∃ l : List Int, l.length ≤ 1000 ∧ Ev (fun k => spec_WholeRatioYears.l0 k o y acc t) (l, true) ∧ Ev (fun k => impl_WholeRatioYears.l0 k acc y o t) (l, true) := by
  induction n with
  | zero =>
    intro t acc h1 h2 h3
    exact ⟨acc, by omega, Ev.step (f := fun k => _) (fun k => by rw [spec_WholeRatioYears.l0]) (ifn (by omega) now), Ev.step (f := fun k => _) (fun k => by rw [impl_WholeRatioYears.l0]) (ifn (by omega) now)⟩
  | succ n ih =>
    intro t acc h1 h2 h3
    by_cases ht : t ≤ 120
    · by_cases hm : Int.tmod (o + t) (y + t) = 0
      · obtain ⟨l, hl, e1, e2⟩ := ih (t + 1) (acc ++ [t]) (by omega) (by omega) (by simp; omega)
        refine ⟨l, hl, ?_, ?_⟩
        · refine Ev.step (f := fun k => _) (fun k => by rw [spec_WholeRatioYears.l0]) (ifp ht ?_)
          rw [w64 (y + t) (by omega), w64 (o + t) (by omega), w64 (t + 1) (by omega)]
          exact ifn (by omega) (ifp hm (ifp (by omega) e1))
        · refine Ev.step (f := fun k => _) (fun k => by rw [impl_WholeRatioYears.l0]) (ifp ht ?_)
          rw [w64 (y + t) (by omega), w64 (o + t) (by omega), w64 (t + 1) (by omega)]
          exact ifn (by omega) (ifp hm (ifp (by omega) e2))
      · obtain ⟨l, hl, e1, e2⟩ := ih (t + 1) acc (by omega) (by omega) (by omega)
        refine ⟨l, hl, ?_, ?_⟩
        · refine Ev.step (f := fun k => _) (fun k => by rw [spec_WholeRatioYears.l0]) (ifp ht ?_)
          rw [w64 (y + t) (by omega), w64 (o + t) (by omega), w64 (t + 1) (by omega)]
          exact ifn (by omega) (ifn hm e1)
        · refine Ev.step (f := fun k => _) (fun k => by rw [impl_WholeRatioYears.l0]) (ifp ht ?_)
          rw [w64 (y + t) (by omega), w64 (o + t) (by omega), w64 (t + 1) (by omega)]
          exact ifn (by omega) (ifn hm e2)
    · exact ⟨acc, by omega, Ev.step (f := fun k => _) (fun k => by rw [spec_WholeRatioYears.l0]) (ifn ht now), Ev.step (f := fun k => _) (fun k => by rw [impl_WholeRatioYears.l0]) (ifn ht now)⟩
theorem both (a b : Int) : ∃ v : List Int × Bool, v.1.length ≤ 1000 ∧ Ev (fun k => spec_WholeRatioYears.f k a b) v ∧ Ev (fun k => impl_WholeRatioYears.f k a b) v := by
  unfold spec_WholeRatioYears.f impl_WholeRatioYears.f
  by_cases h : two a b = true
  · have h' : (0 ≤ a ∧ a ≤ 120) ∧ 0 ≤ b ∧ b ≤ 120 := by
      unfold two at h; simp at h; omega
    obtain ⟨l, hl, e1, e2⟩ := loop (max a b) (min a b) (by omega) (by omega) _ (1 - min a b) [] (by omega) (Nat.le_refl _) (by simp; omega)
    refine ⟨(l, true), hl, call (raTwo a b) (ifp h (call (most a b) (call (least a b) ?_))), call (areUnlike a b) (ifp h ?_)⟩
    · rw [w64 _ (by omega)]; exact e1
    · rw [mn_, mx_, w64 _ (by omega)]; exact e2
  · exact ⟨([], false), by simp, call (raTwo a b) (ifn h now), call (areUnlike a b) (ifn h now)⟩
end WholeRatioYears
theorem FnExactWholeRatioYears : laws_FnExactWholeRatioYears.Pure := by
  intro a b _ _
  refine Ev.rounds ?_
  obtain ⟨⟨l, ok⟩, hl, e1, e2⟩ := WholeRatioYears.both a b
  have hl : l.length ≤ 1000 := hl
  unfold laws_FnExactWholeRatioYears.f
  refine Ev.bind e1 (Ev.bind e2 (Ev.bind (eqIntS l (by omega)) (ifp rfl ?_)))
  refine Ev.step (f := fun k => _) (fun k => by rw [laws_FnExactWholeRatioYears.j0]) (ifn (by simp) ?_)
  refine Ev.bind (markIntS l (by omega) 1 (by decide)) (Ev.bind (heldIntS l.length (by omega) 1 (by decide)) (ifn (by omega) (ifp rfl (Ev.bind e2 (Ev.bind (eqIntS l (by omega)) (ifp rfl ?_))))))
  refine Ev.step (f := fun k => _) (fun k => by rw [laws_FnExactWholeRatioYears.j1]) (ifn (by simp) ?_)
  exact Ev.bind (heldIntS l.length (by omega) 1 (by decide)) (ifn (by omega) (ifp rfl now))
end Go.Proofs.Ytkjmiamldajcbaa.Pure
