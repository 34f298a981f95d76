/- The program's RatiosInYears returns what the reference's returns, for all arguments. No condition. -/
import Derived.Test.YtkjmiamldajcbaaPx19
import Derived.Test.YtkjmiamldajcbaaPrC
import Derived.Test.YtkjmiamldajcbaaPrR
namespace Go.Proofs.Ytkjmiamldajcbaa.Pure
open Go.RowKit Go.Proofs.Ytkjmiamldajcbaa.P Go.Proofs.Ytkjmiamldajcbaa.Pr Go.Proofs.YtkjmiamldajcbaaW.PrintWords Go.Proofs.YtkjmiamldajcbaaW.PrintMore Go.Proofs.Ytkjmiamldajcbaa.E Go.Proofs.Ytkjmiamldajcbaa.Mth
namespace RatiosInYears
theorem loop (a b y : Int) (ha : 1 ≤ a ∧ a ≤ 120) (hb : 1 ≤ b ∧ b ≤ 120) (hy : 0 ≤ y ∧ y ≤ 20) (n : Nat) : ∀ (t : Int) (acc : List Rt), 0 ≤ t → t ≤ y + 1 → (y + 1 - t).toNat ≤ n → acc.length + (y + 1 - t).toNat ≤ 1000 →
    ∃ v : List Rt × Bool, v.1.length ≤ 1000 ∧ Ev (fun k => spec_RatiosInYears.l0 k a b y acc t) v ∧ Ev (fun k => impl_RatiosInYears.l0 k a b acc (y + 1) t) v := by
  induction n with
  | zero =>
    intro t acc h0 h1 h2 h3
    exact ⟨(acc, true), by show acc.length ≤ 1000; omega, Ev.step (f := fun k => _) (fun k => by rw [spec_RatiosInYears.l0]) (ifn (by omega) now), Ev.step (f := fun k => _) (fun k => by rw [impl_RatiosInYears.l0]) (ifn (by omega) now)⟩
  | succ n ih =>
    intro t acc h0 h1 h2 h3
    by_cases ht : t ≤ y
    · by_cases hg : good (lowN (a + t) (b + t)) (lowD (a + t) (b + t)) = true
      · obtain ⟨v, hv, e1, e2⟩ := ih (t + 1) (acc ++ [⟨lowN (a + t) (b + t), lowD (a + t) (b + t)⟩]) (by omega) (by omega) (by omega) (by simp; omega)
        refine ⟨v, hv, ?_, ?_⟩
        · refine Ev.step (f := fun k => _) (fun k => by rw [spec_RatiosInYears.l0]) (ifp ht ?_)
          rw [w64 (a + t) (by omega), w64 (b + t) (by omega), w64 (t + 1) (by omega)]
          exact Ev.bind (raLow _ _ (by omega) (by omega) (by omega)) (call (raGood _ _) (ifp hg (ifp (by omega) e1)))
        · refine Ev.step (f := fun k => _) (fun k => by rw [impl_RatiosInYears.l0]) (ifp (by omega) ?_)
          rw [w64 (a + t) (by omega), w64 (b + t) (by omega), w64 (t + 1) (by omega)]
          exact Ev.bind (lowest _ _ (by omega) (by omega) (by omega)) (call (isRatio _ _) (ifp hg (ifp (by omega) e2)))
      · refine ⟨([], false), by simp, ?_, ?_⟩
        · refine Ev.step (f := fun k => _) (fun k => by rw [spec_RatiosInYears.l0]) (ifp ht ?_)
          rw [w64 (a + t) (by omega), w64 (b + t) (by omega), w64 (t + 1) (by omega)]
          exact Ev.bind (raLow _ _ (by omega) (by omega) (by omega)) (call (raGood _ _) (ifn hg now))
        · refine Ev.step (f := fun k => _) (fun k => by rw [impl_RatiosInYears.l0]) (ifp (by omega) ?_)
          rw [w64 (a + t) (by omega), w64 (b + t) (by omega), w64 (t + 1) (by omega)]
          exact Ev.bind (lowest _ _ (by omega) (by omega) (by omega)) (call (isRatio _ _) (ifn hg now))
    · exact ⟨(acc, true), by show acc.length ≤ 1000; omega, Ev.step (f := fun k => _) (fun k => by rw [spec_RatiosInYears.l0]) (ifn (by omega) now), Ev.step (f := fun k => _) (fun k => by rw [impl_RatiosInYears.l0]) (ifn (by omega) now)⟩
theorem spec_no (a b y : Int) : Ev (fun k => spec_RatiosInYears.j0 k a b y true) ([], false) := Ev.step (f := fun k => _) (fun k => by rw [spec_RatiosInYears.j0]) (ifp rfl now)
theorem impl_no (a b y : Int) : Ev (fun k => impl_RatiosInYears.j0 k a b y true) ([], false) := Ev.step (f := fun k => _) (fun k => by rw [impl_RatiosInYears.j0]) (ifp rfl now)
theorem both (a b y : Int) : ∃ v : List Rt × Bool, v.1.length ≤ 1000 ∧ Ev (fun k => spec_RatiosInYears.f k a b y) v ∧ Ev (fun k => impl_RatiosInYears.f k a b y) v := by
  by_cases h : (1 ≤ a ∧ a ≤ 120) ∧ (1 ≤ b ∧ b ≤ 120) ∧ 0 ≤ y ∧ y ≤ 20
  · obtain ⟨ha, hb, hy⟩ := h
    obtain ⟨v, hv, e1, e2⟩ := loop a b y ha hb hy _ 0 [] (by omega) (by omega) (Nat.le_refl _) (by simp; omega)
    refine ⟨v, hv, ?_, ?_⟩
    · unfold spec_RatiosInYears.f
      refine call (l1In a 1 120) (ifp (by simpa using ha) (call (l1In b 1 120) (ifp (by simpa using hb) (call (l1In y 0 20) ?_))))
      rw [decide_eq_true hy]
      exact Ev.step (f := fun k => _) (fun k => by rw [spec_RatiosInYears.j0]) (ifn (by simp) e1)
    · unfold impl_RatiosInYears.f
      refine call (isAge a) (ifp (by simp; omega) (call (isAge b) (ifp (by simp; omega) (call (between y 0 20) (ifp (by simpa using hy) ?_)))))
      rw [mn_, decide_eq_false (by omega)]
      refine Ev.step (f := fun k => _) (fun k => by rw [impl_RatiosInYears.j0]) (ifn (by simp) ?_)
      rw [w64 _ (by omega)]; exact e2
  · refine ⟨([], false), by simp, ?_, ?_⟩
    · unfold spec_RatiosInYears.f
      refine call (l1In a 1 120) ?_
      by_cases h1 : 1 ≤ a ∧ a ≤ 120
      · refine ifp (by simpa using h1) (call (l1In b 1 120) ?_)
        by_cases h2 : 1 ≤ b ∧ b ≤ 120
        · refine ifp (by simpa using h2) (call (l1In y 0 20) ?_)
          rw [decide_eq_false (fun h3 => h ⟨h1, h2, h3⟩)]
          exact spec_no a b y
        · exact ifn (by simpa using h2) (spec_no a b y)
      · exact ifn (by simpa using h1) (spec_no a b y)
    · unfold impl_RatiosInYears.f
      refine call (isAge a) ?_
      by_cases h1 : 0 ≤ a ∧ a ≤ 120
      · refine ifp (by simpa using h1) (call (isAge b) ?_)
        by_cases h2 : 0 ≤ b ∧ b ≤ 120
        · refine ifp (by simpa using h2) (call (between y 0 20) ?_)
          by_cases h3 : 0 ≤ y ∧ y ≤ 20
          · refine ifp (by simpa using h3) ?_
            rw [mn_, decide_eq_true (by omega)]
            exact impl_no a b y
          · exact ifn (by simpa using h3) (impl_no a b y)
        · exact ifn (by simpa using h2) (impl_no a b y)
      · exact ifn (by simpa using h1) (impl_no a b y)
end RatiosInYears
theorem FnExactRatiosInYears : laws_FnExactRatiosInYears.Pure := by
  intro a b y _ _ _
  refine Ev.rounds ?_
  obtain ⟨⟨l, ok⟩, hl, e1, e2⟩ := RatiosInYears.both a b y
  have hl : l.length ≤ 1000 := hl
  unfold laws_FnExactRatiosInYears.f
  refine Ev.bind e1 (Ev.bind e2 (Ev.bind (eqRatioS l (by omega)) (ifp rfl ?_)))
  refine Ev.step (f := fun k => _) (fun k => by rw [laws_FnExactRatiosInYears.j0]) (ifn (by simp) ?_)
  refine Ev.bind (markRatioS l (by omega) 1 (by decide)) (Ev.bind (heldRatioS l.length (by omega) 1 (by decide)) (ifn (by omega) (ifp rfl (Ev.bind e2 (Ev.bind (eqRatioS l (by omega)) (ifp rfl ?_))))))
  refine Ev.step (f := fun k => _) (fun k => by rw [laws_FnExactRatiosInYears.j1]) (ifn (by simp) ?_)
  exact Ev.bind (heldRatioS l.length (by omega) 1 (by decide)) (ifn (by omega) (ifp rfl now))
end Go.Proofs.Ytkjmiamldajcbaa.Pure
